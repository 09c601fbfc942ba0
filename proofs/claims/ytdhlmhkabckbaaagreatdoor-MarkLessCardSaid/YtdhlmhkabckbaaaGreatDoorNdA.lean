/-
  What node.Read reads with: the contracts of its two function literals, take and count.
-/
import Derived.Test.YtdhlmhkabckbaaaGreatDoorShaA
import Derived.Deep.Heap
import Derived.Test.YtdhlmhkabckbaaaGreatDoorEntA
import Derived.Test.YtdhlmhkabckbaaaGreatDoorStrs
import Derived.Test.YtdhlmhkabckbaaaGreatDoorHeld
import Derived.Deep.DeepCutAuto
import Derived.Deep.CutBlock
import Derived.Laws.EntriesVeiled
namespace Go.Proofs.YtdhlmhkabckbaaaGreatDoor
open Go.RowKit

/-- The number of some bytes, the highest first. -/
def val (l : List UInt8) : Nat := l.foldl (fun n c => n * 256 + c.toNat) 0
theorem val_snoc (l : List UInt8) (c : UInt8) : val (l ++ [c]) = val l * 256 + c.toNat := by simp [val]
/-- What is read so far: was something bad, and what is left. -/
abbrev Pst := Bool × List UInt8
def tk (n : Nat) (p : Pst) : List UInt8 × Pst := if n ≤ p.2.length then (p.2.take n, (p.1, p.2.drop n)) else ([], (true, []))

/-- w' is w, but for the blocks b4 and b5, and for what is new. -/
structure But (b4 b5 : Nat) (w w' : World) : Prop where
  os : w'.os = w.os
  tape : w'.tape = w.tape
  output : w'.output = w.output
  size : w.heap.size ≤ w'.heap.size
  block : ∀ i, i < w.heap.size → i ≠ b4 → i ≠ b5 → w'.heap[i]? = w.heap[i]?
section
variable {b4 b5 : Nat} {w w' w'' : World}
theorem But.refl (b4 b5 : Nat) (w : World) : But b4 b5 w w := ⟨rfl, rfl, rfl, Nat.le_refl _, fun _ _ _ _ => rfl⟩
theorem But.trans (h : But b4 b5 w w') (h' : But b4 b5 w' w'') : But b4 b5 w w'' :=
  ⟨h'.os.trans h.os, h'.tape.trans h.tape, h'.output.trans h.output, Nat.le_trans h.size h'.size, fun i hi h4 h5 => (h'.block i (Nat.lt_of_lt_of_le hi h.size) h4 h5).trans (h.block i hi h4 h5)⟩
theorem But.of (h : Below w.heap.size w w') : But b4 b5 w w' := ⟨h.os, h.tape, h.output, h.size, fun i hi _ _ => h.block i hi⟩
theorem But.cell (h : But b4 b5 w w') {b : Nat} (o : Nat) (hb : b < w.heap.size) (h4 : b ≠ b4) (h5 : b ≠ b5) : w'.cell? ⟨b, o, none⟩ = w.cell? ⟨b, o, none⟩ := World.cell?_of_block (h.block b hb h4 h5)
theorem But.frozen (h : But b4 b5 w w') {b : Nat} (o : Nat) (hb : b < w.heap.size) (h4 : b ≠ b4) (h5 : b ≠ b5) : w'.frozen? ⟨b, o, none⟩ = w.frozen? ⟨b, o, none⟩ := by
  have := h.block b hb h4 h5
  unfold World.frozen?
  simp only [this]
theorem But.below (h : But b4 b5 w w') {B : Nat} (h4 : B ≤ b4) (h5 : B ≤ b5) (hB : B ≤ w.heap.size) : Below B w w' := ⟨h.os, h.tape, h.output, h.size, fun i hi => h.block i (by omega) (by omega) (by omega)⟩
theorem But.owns {α : Type} {k : Nat} {enc : α → List Value} {T : TypeId} {base : Nat} {v : Value} {l : List α} (h : But b4 b5 w w') (ho : Owns k enc T w base v l) (h4 : b4 < base) (h5 : b5 < base) : Owns k enc T w' base v l :=
  ⟨ho.1, ho.2.imp id fun ⟨g, cap, cur, e, hg, hh, r⟩ => ⟨g, cap, cur, e, hg, (h.block g (Array.getElem?_eq_some_iff.1 hh).1 (by omega) (by omega)).trans hh, r⟩⟩
theorem But.set4 (h : But b4 b5 w w') (v : Value) : But b4 b5 w (w'.setCell ⟨b4, 0, none⟩ v) :=
  ⟨h.os, h.tape, h.output, by simpa using h.size, fun i hi h4 h5 => (Go.Deep.blk_setCell_other _ _ _ _ h4).trans (h.block i hi h4 h5)⟩
theorem But.set5 (h : But b4 b5 w w') (v : Value) : But b4 b5 w (w'.setCell ⟨b5, 0, none⟩ v) :=
  ⟨h.os, h.tape, h.output, by simpa using h.size, fun i hi h4 h5 => (Go.Deep.blk_setCell_other _ _ _ _ h5).trans (h.block i hi h4 h5)⟩
end

/-- The two boxes hold what is read so far. -/
structure RP (w : World) (b4 b5 : Nat) (p : Pst) : Prop where
  lt : b4 < b5 ∧ b5 < w.heap.size
  bad : w.cell? ⟨b5, 0, none⟩ = some (.bool p.1)
  fb : w.frozen? ⟨b5, 0, none⟩ = false
  rest : ∃ A n c, w.cell? ⟨b4, 0, none⟩ = some (.slice A n c) ∧ BytesAt w b4 A n p.2 ∧ n ≤ c ∧ c ≤ 9223372036854775807
  fr : w.frozen? ⟨b4, 0, none⟩ = false

theorem BytesAt.cut {w : World} {B : Nat} {A : Option Addr} {m c : Nat} {l : List UInt8} (h : BytesAt w B A m l) {n : Nat} (hn : n ≤ m) (hc : m ≤ c) : BytesAt w B (if c = n then A else A.map (·.add n)) (m - n) (l.drop n) := by
  refine ⟨by simp [h.1], by have := h.2.1; omega, fun h0 => ?_⟩
  obtain ⟨b, off, rfl, hb, hcl⟩ := h.2.2 (by omega)
  rw [if_neg (by omega)]
  refine ⟨b, off + n, by simp [Addr.add_lit], hb, fun i x hx j v hv => ?_⟩
  rw [List.getElem?_drop] at hx
  have := hcl _ x hx j v hv
  rw [show off + n + i * 1 + j = off + (n + i) * 1 + j by omega]
  exact this
theorem BytesAt.head {w : World} {B : Nat} {A : Option Addr} {m : Nat} {l : List UInt8} (h : BytesAt w B A m l) {n : Nat} (hn : n ≤ m) : BytesAt w B A n (l.take n) := by
  refine ⟨by simp [h.1, hn], by have := h.2.1; omega, fun h0 => ?_⟩
  obtain ⟨b, off, e, hb, hcl⟩ := h.2.2 (by omega)
  refine ⟨b, off, e, hb, fun i x hx j v hv => ?_⟩
  rw [List.getElem?_take] at hx
  split at hx
  · exact hcl i x hx j v hv
  · cases hx


set_option maxRecDepth 100000 in
set_option maxHeartbeats 1000000 in
theorem nd_take (n : Nat) (hn : n ≤ 100000) (w : World) (b4 b5 : Nat) (p : Pst) (h : RP w b4 b5 p) :
    Calls Tryz.prog 183 #[.int .i64 n, .pointer (some ⟨b4, 0, none⟩), .pointer (some ⟨b5, 0, none⟩)] w fun e w' => ∃ A' n' c', e = .returned (.slice A' n' c') ∧ BytesAt w' b4 A' n' (tk n p).1 ∧ RP w' b4 b5 (tk n p).2 ∧ But b4 b5 w w' := by
  obtain ⟨⟨hlt, hlt2⟩, hbad, hfb, ⟨A, m, c, hrest, hr, hmc, hc⟩, hfr⟩ := h
  have hne : b4 ≠ b5 := by omega
  have hne' : b5 ≠ b4 := by omega
  have hl := Lib.hid hr.1
  have hm := hr.2.1
  by_cases hnm : n ≤ m
  · have ht : Hid (tk n p = (p.2.take n, (p.1, p.2.drop n))) := by unfold Hid tk; rw [if_pos (by rw [hl.out]; exact hnm)]
    have g1 : decide (m < n) = false := by simp; omega
    have g2 : decide ((m : Int) < (n : Int)) = false := by simp; omega
    have hi1 : (n : Int) ≤ (c : Int) := by omega
    have hi2 : (n : Int) ≤ (m : Int) := by omega
    have hi3 : (m : Int) ≤ (c : Int) := by omega
    have hcut := Lib.hid (BytesAt.cut hr hnm hmc)
    have hhd := Lib.hid (hr.head hnm)
    replace hr := Lib.hid hr
    go_enter Tryz.func183, Tryz.ntmps183
    go_wp2_with fail
    case inl =>
      subst h
      go_ret
      have hcut := hcut.out
      rw [if_pos rfl] at hcut
      refine ⟨A, _, ⟨_, rfl⟩, ?_, ?_, (But.refl _ _ _).set4 _⟩
      · rw [ht.out]
        exact hhd.out.keep fun q hq => by rw [World.cell?_setCell_other]; rintro rfl; simp at hq
      · rw [ht.out]
        exact ⟨⟨hlt, by simp; omega⟩, by go_simp, by go_simp, ⟨A, _, 0, by go_simp, hcut.keep fun q hq => by rw [World.cell?_setCell_other]; rintro rfl; simp at hq, by omega, by omega⟩, by go_simp⟩
    case inr =>
      go_ret
      have hcut := hcut.out
      rw [if_neg h] at hcut
      refine ⟨A, _, ⟨_, rfl⟩, ?_, ?_, (But.refl _ _ _).set4 _⟩
      · rw [ht.out]
        exact hhd.out.keep fun q hq => by rw [World.cell?_setCell_other]; rintro rfl; simp at hq
      · rw [ht.out]
        exact ⟨⟨hlt, by simp; omega⟩, by go_simp, by go_simp, ⟨A.map (·.add n), m - n, c - n, by go_simp, hcut.keep fun q hq => by rw [World.cell?_setCell_other]; rintro rfl; simp at hq, by omega, by omega⟩, by go_simp⟩
  · have ht : Hid (tk n p = ([], (true, []))) := by unfold Hid tk; rw [if_neg (by rw [hl.out]; exact hnm)]
    have g1 : decide (m < n) = true := by simp; omega
    have g2 : decide ((m : Int) < (n : Int)) = true := by simp; omega
    go_enter Tryz.func183, Tryz.ntmps183
    go_wp2_with fail
    go_ret
    refine ⟨none, 0, 0, rfl, by rw [ht.out]; exact RowAt.none_, ?_, (But.refl _ _ _).set5 _ |>.set4 _⟩
    rw [ht.out]
    exact ⟨⟨hlt, by simp; omega⟩, by go_simp, by go_simp, ⟨none, 0, 0, by go_simp, RowAt.none_, by omega, by omega⟩, by go_simp⟩

theorem val_lt (l : List UInt8) : val l < 256 ^ l.length := by
  have key : ∀ (l : List UInt8) (a k : Nat), a < 256 ^ k → l.foldl (fun n c => n * 256 + c.toNat) a < 256 ^ (k + l.length) := by
    intro l
    induction l with
    | nil => intro a k h; simpa using h
    | cons c l ih =>
      intro a k h
      have hc := c.toNat_lt
      have := ih (a * 256 + c.toNat) (k + 1) (by rw [Nat.pow_succ]; omega)
      rw [List.foldl_cons, List.length_cons, show k + (l.length + 1) = k + 1 + l.length by omega]
      exact this
  have := key l 0 0 (by simp)
  simpa [val] using this

theorem or_byte {V c : Nat} (h : V < 16777216) (hc : c < 256) : bits .or .i64 ((V : Int) * 256) (wrap64 (c : Int)) = ((V * 256 + c : Nat) : Int) := by
  have ha : (BitVec.ofInt 64 ((V : Int) * 256)).toNat = V * 256 := by rw [BitVec.toNat_ofInt]; omega
  have hb : (BitVec.ofInt 64 (wrap64 (c : Int))).toNat = c := by
    rw [BitVec.toNat_ofInt]
    unfold wrap64
    omega
  have hor : V * 256 ||| c = V * 256 + c := by rw [show V * 256 = V <<< 8 by rw [Nat.shiftLeft_eq], Nat.shiftLeft_add_eq_or_of_lt (by omega)]
  unfold bits
  show IntKind.i64.wrap ((BitVec.ofInt 64 ((V : Int) * 256) ||| BitVec.ofInt 64 (wrap64 (c : Int))).toNat : Int) = _
  rw [BitVec.toNat_or, ha, hb, hor]
  simp only [IntKind.wrap, IntKind.bits, IntKind.signed]
  simp
  omega

set_option maxRecDepth 100000 in
set_option maxHeartbeats 2000000 in
theorem nd_count (m : Nat) (hm : m ≤ 4) (w : World) (b4 b5 b6 : Nat) (p : Pst) (h : RP w b4 b5 p) (h6 : b6 < w.heap.size ∧ b6 ≠ b4 ∧ b6 ≠ b5)
    (hf : w.cell? ⟨b6, 0, none⟩ = some (.func (.func 183) #[] #[.pointer (some ⟨b4, 0, none⟩), .pointer (some ⟨b5, 0, none⟩)])) :
    Calls Tryz.prog 184 #[.int .i64 m, .pointer (some ⟨b6, 0, none⟩)] w fun e w' => e = .returned (.int .i64 ((val (tk m p).1 : Nat) : Int)) ∧ RP w' b4 b5 (tk m p).2 ∧ But b4 b5 w w' := by
  have ht := Lib.hid (nd_take m (by omega) w b4 b5 p h)
  have hlm : (tk m p).1.length ≤ m := by unfold tk; split <;> simp; omega
  replace h := Lib.hid h
  go_enter Tryz.func184, Tryz.ntmps184
  go_wp2_with fail
  refine ht.out.mono ?_
  rintro e w1 ⟨A, n, c, rfl, hr, hr1, hb1⟩
  obtain ⟨l, hl⟩ : ∃ l, l = (tk m p).1 := ⟨_, rfl⟩
  rw [← hl] at hr hlm
  replace hr1 := Lib.hid hr1
  replace hb1 := Lib.hid hb1
  replace hl := Lib.hid hl
  obtain rfl : l.length = n := hr.1
  replace hr := Lib.hid hr
  go_wp2_with fail
  go_loopw [4, 6, 11] (fun v _ i wr => ∃ k : Nat, k ≤ l.length ∧ i = .int .i64 k ∧ v = .int .i64 ((val (l.take k) : Nat) : Int) ∧ wr = w1) (fun _ _ i _ => l.length - (intOf i).toNat)
  case atStart => exact ⟨0, Nat.zero_le _, rfl, rfl, rfl⟩
  case round =>
    obtain ⟨k, hk, rfl, rfl, rfl⟩ := hrel
    by_cases hlt : k < l.length
    · obtain ⟨b, off, e0, hb, hc⟩ := hr.out.2.2 (by omega)
      obtain ⟨x, hx⟩ := getElem_some (l := l) (i := k) hlt
      have c0 := hc k x hx 0 _ rfl
      subst e0
      simp only [Nat.mul_one, Nat.add_zero] at c0
      clear hc
      have hvt : Hid (val (l.take (k + 1)) = val (l.take k) * 256 + x.toNat) := by
        unfold Hid
        rw [List.take_add_one, hx]
        exact val_snoc _ _
      have hv1 : val (l.take k) < 16777216 := by
        have h1 := val_lt (l.take k)
        have h2 : (l.take k).length ≤ 3 := by rw [List.length_take]; omega
        have h3 : 256 ^ (l.take k).length ≤ 256 ^ 3 := Nat.pow_le_pow_right (by omega) h2
        omega
      replace hx := Lib.hid hx
      have hi1 : (k : Int) < (l.length : Int) := by omega
      generalize val (l.take k) = V at hvt hv1 ⊢
      go_wp2_with fail
      have hx256 := x.toNat_lt
      rw [or_byte hv1 (by omega), ← hvt.out]
      exact ⟨⟨k + 1, by omega, by go_num, rfl, trivial⟩, by simp [intOf]; omega⟩
    · obtain rfl : k = l.length := by omega
      go_wp2_with fail
      go_ret
      exact ⟨by rw [← hl.out, List.take_length]; rfl, hr1.out, hb1.out⟩
end Go.Proofs.YtdhlmhkabckbaaaGreatDoor
/-
  node.Read: what is read of a directory's bytes (the plain law); what holds while it is read.
-/
namespace Go.Proofs.YtdhlmhkabckbaaaGreatDoor
open Go.RowKit

def cnt (m : Nat) (p : Pst) : Nat × Pst := (val (tk m p).1, (tk m p).2)
/-- The digests of an entry. -/
def rdChunks : Nat → Pst → List ByteArray → List ByteArray × Pst
  | 0, p, acc => (acc, p)
  | f + 1, p, acc => if p.1 then (acc, p) else rdChunks f (tk 32 p).2 (acc ++ [str (tk 32 p).1])
/-- An entry. -/
def rdEnt (p : Pst) : Ent × Pst :=
  let k := cnt 1 p
  let p1 : Pst := (k.2.1 || decide (1 < (k.1 : Int)), k.2.2)
  let nl := cnt 1 p1
  let nm := tk nl.1 nl.2
  let sz := cnt 4 nm.2
  let cn := cnt 2 sz.2
  let cs := rdChunks cn.1 cn.2 []
  (⟨str nm.1, (k.1 : Int) == 1, (sz.1 : Int), cs.1⟩, cs.2)
def rdEnts : Nat → Pst → List Ent → List Ent × Pst
  | 0, p, acc => (acc, p)
  | f + 1, p, acc => if p.1 then (acc, p) else rdEnts f (rdEnt p).2 (acc ++ [(rdEnt p).1])
/-- A directory's entries, or that there are none. -/
def rdNode (P : ByteArray → Bool) (s : ByteArray) : List Ent × Int :=
  let h := tk 4 (decide (16384 < (s.size : Int)), bl s)
  let p1 : Pst := (decide (h.1 ≠ [100, 105, 114, 49]) || h.2.1, h.2.2)
  let n := cnt 2 p1
  let r := rdEnts n.1 n.2 []
  if r.2.1 || decide (0 < r.2.2.length) || !mayN P r.1 then ([], 4) else (r.1, 0)


def entE : Elem EntX where
  T := 111
  S := 108
  k := 4
  bytes := 56
  enc := entCells
  z := .agg #[.string ⟨#[]⟩, .bool false, .int .i64 0, .slice none 0 0]
  und := Tryz.underlying108
  info := by kernel_rfl
  zc := rfl
  pos := by decide
  small := by decide
  len := fun _ => rfl
  one := fun x u hu => by simp [entCells] at hu; rcases hu with rfl | rfl | rfl | rfl <;> rfl

abbrev takFn (B : Nat) : Value := .func (.func 183) #[] #[.pointer (some ⟨B, 0, none⟩), .pointer (some ⟨B + 1, 0, none⟩)]
abbrev slv (x : EntX) : Value := .slice x.2.1 x.2.2.1 x.2.2.2

theorem RP.below {b4 b5 : Nat} {w w' : World} {p : Pst} (h : RP w b4 b5 p) {B : Nat} (hb : Below B w w') (hB : b5 < B) : RP w' b4 b5 p := by
  obtain ⟨⟨r1, r2⟩, r3, r4, ⟨A, n, c, r5, r6, r7, r8⟩, r9⟩ := h
  have hz := hb.size
  exact ⟨⟨r1, by omega⟩, (hb.cell (p := ⟨_, _, none⟩) hB).trans r3, (hb.frozen (p := ⟨_, _, none⟩) hB).trans r4,
    ⟨A, n, c, (hb.cell (p := ⟨_, _, none⟩) (show b4 < B by omega)).trans r5, r6.keep (fun q hq => hb.cell (by omega)), r7, r8⟩, (hb.frozen (p := ⟨_, _, none⟩) (show b4 < B by omega)).trans r9⟩
theorem RP.setBad {b4 b5 : Nat} {w : World} {p : Pst} (h : RP w b4 b5 p) (c : Bool) : RP (w.setCell ⟨b5, 0, none⟩ (.bool c)) b4 b5 (c, p.2) := by
  obtain ⟨⟨r1, r2⟩, r3, r4, ⟨A, n, cc, r5, r6, r7, r8⟩, r9⟩ := h
  have hne : b5 ≠ b4 := by omega
  have hne' : b4 ≠ b5 := by omega
  refine ⟨⟨r1, by simpa using r2⟩, by go_simp, by go_simp, ⟨A, n, cc, by go_simp, r6.keep (fun q hq => by rw [World.cell?_setCell_other]; rintro rfl; simp at hq; omega), r7, r8⟩, by go_simp⟩
theorem RP.drew {b4 b5 : Nat} {w : World} {p : Pst} (h : RP w b4 b5 p) : RP w.drew b4 b5 p := by
  obtain ⟨r1, r3, r4, r5, r9⟩ := h
  exact ⟨r1, r3, r4, r5, r9⟩

/-- What holds while entries are read: the boxes B (the rest), B + 1 (bad), B + 2 (take); the entries so far. -/
structure ND (w0 w : World) (B : Nat) (p : Pst) (V : Value) (L : List EntX) : Prop where
  rp : RP w B (B + 1) p
  fn : w.cell? ⟨B + 2, 0, none⟩ = some (takFn B)
  lt : w0.heap.size ≤ B ∧ B + 2 < w.heap.size
  own : entE.Own w (B + 3) V L
  sub : ∀ x ∈ L, strE.Own w (B + 3) (slv x) x.1.chunks ∧ ((slv x).ownBlock = none ∨ (slv x).ownBlock ≠ V.ownBlock) ∧ x.1.chunks.length ≤ 70000
  below : Below w0.heap.size w0 w
theorem ND.but {w0 w w' : World} {B : Nat} {p p' : Pst} {V : Value} {L : List EntX} (h : ND w0 w B p V L) (hb : But B (B + 1) w w') (hp : RP w' B (B + 1) p') : ND w0 w' B p' V L := by
  obtain ⟨rp, fn, ⟨l1, l2⟩, own, sub, below⟩ := h
  have hs := hb.size
  exact ⟨hp, (hb.cell 0 l2 (by omega) (by omega)).trans fn, ⟨l1, by omega⟩, hb.owns own (by omega) (by omega), fun x hx => ⟨hb.owns (sub x hx).1 (by omega) (by omega), (sub x hx).2⟩, below.trans (hb.below l1 (by omega) (by omega))⟩
theorem ND.row {w0 w : World} {B : Nat} {p : Pst} {A : Option Addr} {n c : Nat} {L : List EntX} (h : ND w0 w B p (.slice A n c) L) : EntsAt w w.heap.size A n L :=
  ⟨Owns.row entE.len h.own, fun x hx => ⟨Owns.row strE.len (h.sub x hx).1, by
    have h1 := (Owns.row strE.len (h.sub x hx).1).1
    have h2 := (h.sub x hx).2.2
    omega⟩⟩

/-- Entries in memory of the call's own, from block B on. -/
structure NewEnts (w : World) (B : Nat) (V : Value) (L : List EntX) : Prop where
  own : entE.Own w B V L
  sub : ∀ x ∈ L, strE.Own w B (slv x) x.1.chunks ∧ x.1.chunks.length ≤ 70000
theorem NewEnts.nil (w : World) (B : Nat) : NewEnts w B (.slice none 0 0) [] := ⟨Owns.nil_, by simp⟩
theorem ND.new {w0 w : World} {B : Nat} {p : Pst} {V : Value} {L : List EntX} (h : ND w0 w B p V L) : NewEnts w w0.heap.size V L :=
  ⟨Owns.from h.own (by have := h.lt.1; omega), fun x hx => ⟨Owns.from (h.sub x hx).1 (by have := h.lt.1; omega), (h.sub x hx).2.2⟩⟩
theorem NewEnts.to {w w' : World} {B : Nat} {V : Value} {L : List EntX} (h : NewEnts w B V L) (hb : ∀ i, B ≤ i → i < w.heap.size → w'.heap[i]? = w.heap[i]?) : NewEnts w' B V L := by
  have key : ∀ {α : Type} {k : Nat} {enc : α → List Value} {T : TypeId} {v : Value} {l : List α}, Owns k enc T w B v l → Owns k enc T w' B v l := fun {α k enc T v l} h =>
    ⟨h.1, h.2.imp id fun ⟨g, cap, cur, e, hg, hh, r⟩ => ⟨g, cap, cur, e, hg, (hb g hg (Array.getElem?_eq_some_iff.1 hh).1).trans hh, r⟩⟩
  exact ⟨key h.own, fun x hx => ⟨key (h.sub x hx).1, (h.sub x hx).2⟩⟩
theorem NewEnts.below {w w' : World} {B : Nat} {V : Value} {L : List EntX} (h : NewEnts w B V L) (hb : Below w.heap.size w w') : NewEnts w' B V L := h.to fun i _ hi => hb.block i hi
theorem NewEnts.row {w : World} {B : Nat} {A : Option Addr} {n c : Nat} {L : List EntX} (h : NewEnts w B (.slice A n c) L) : EntsAt w w.heap.size A n L :=
  ⟨Owns.row entE.len h.own, fun x hx => ⟨Owns.row strE.len (h.sub x hx).1, by
    have h1 := (Owns.row strE.len (h.sub x hx).1).1
    have h2 := (h.sub x hx).2
    omega⟩⟩

/-- What holds while an entry is read, whose box is new in w: what was there in wS stands. -/
structure IN (wS w : World) (B b : Nat) (p : Pst) (name : ByteArray) (dir : Bool) (size : Int) (V : Value) (cs : List ByteArray) : Prop where
  rp : RP w B (B + 1) p
  but : But B (B + 1) wS w
  at_ : b = wS.heap.size ∧ B + 2 < b
  fn : w.cell? ⟨B + 2, 0, none⟩ = some (takFn B)
  box : w.heap[b]? = some (.cells #[.string name, .bool dir, .int .i64 size, V] 111)
  own : strE.Own w (b + 1) V cs
section
variable {wS w w' : World} {B b : Nat} {p p' : Pst} {name : ByteArray} {dir : Bool} {size : Int} {V V' : Value} {cs cs' : List ByteArray}
theorem IN.lt (h : IN wS w B b p name dir size V cs) : b < w.heap.size := (Array.getElem?_eq_some_iff.1 h.box).1
theorem IN.cells (h : IN wS w B b p name dir size V cs) : w.cell? ⟨b, 0, none⟩ = some (.string name) ∧ w.cell? ⟨b, 1, none⟩ = some (.bool dir) ∧ w.cell? ⟨b, 2, none⟩ = some (.int .i64 size) ∧ w.cell? ⟨b, 3, none⟩ = some V :=
  ⟨(cell_of_row w _ 0 _ _ _ h.box).trans rfl, (cell_of_row w _ 1 _ _ _ h.box).trans rfl, (cell_of_row w _ 2 _ _ _ h.box).trans rfl, (cell_of_row w _ 3 _ _ _ h.box).trans rfl⟩
theorem IN.frozen (h : IN wS w B b p name dir size V cs) (o : Nat) : w.frozen? ⟨b, o, none⟩ = false := by
  have := h.box
  unfold World.frozen?
  simp [this]
theorem IN.to (h : IN wS w B b p name dir size V cs) (hb : But B (B + 1) w w') (hp : RP w' B (B + 1) p') : IN wS w' B b p' name dir size V cs := by
  obtain ⟨rp, but, ⟨e, l⟩, fn, box, own⟩ := h
  have hl := (Array.getElem?_eq_some_iff.1 box).1
  exact ⟨hp, but.trans hb, ⟨e, l⟩, (hb.cell 0 (by omega) (by omega) (by omega)).trans fn, (hb.block b hl (by omega) (by omega)).trans box, hb.owns own (by omega) (by omega)⟩
theorem IN.drew (h : IN wS w B b p name dir size V cs) : IN wS w.drew B b p name dir size V cs := by
  obtain ⟨rp, but, e, fn, box, own⟩ := h
  exact ⟨rp.drew, but.trans (But.of ((Below.refl _ _).drew)), e, fn, box, own.drew⟩
theorem IN.alloc (h : IN wS w B b p name dir size V cs) (o : Obj) : IN wS (w.alloc o) B b p name dir size V cs := by
  have hb : Below w.heap.size w (w.alloc o) := (Below.refl _ _).alloc (Nat.le_refl _) _
  exact h.to (But.of hb) (h.rp.below hb (by have := h.rp.lt; omega))
theorem IN.set (h : IN wS w B b p name dir size V cs) (o : Nat) (v : Value) (name' : ByteArray) (dir' : Bool) (size' : Int)
    (e : #[.string name, .bool dir, .int .i64 size, V].setIfInBounds o v = #[.string name', .bool dir', .int .i64 size', V]) : IN wS (w.setCell ⟨b, o, none⟩ v) B b p name' dir' size' V cs := by
  have hl := h.lt
  obtain ⟨rp, but, ⟨e1, l⟩, fn, box, own⟩ := h
  have hb : Below b w (w.setCell ⟨b, o, none⟩ v) := Below.setCell (p := ⟨b, o, none⟩) (Below.refl b w) (Nat.le_refl b) v
  refine ⟨rp.below hb (by omega), ⟨but.os, but.tape, but.output, by simpa using but.size, fun i hi h4 h5 => (Go.Deep.blk_setCell_other _ _ _ _ (show i ≠ b by omega)).trans (but.block i hi h4 h5)⟩, ⟨e1, l⟩, (hb.cell (p := ⟨_, _, none⟩) (show B + 2 < b by omega)).trans fn, ?_, Owns.setAway own _ (by omega)⟩
  rw [← e]
  exact hset box v
theorem IN.grow (h : IN wS w B b p name dir size V cs) (ho : strE.Own w' (b + 1) V' cs') (hg : w.grownBy w' V.ownBlock) : IN wS (w'.setCell ⟨b, 3, none⟩ V') B b p name dir size V' cs' := by
  have hl := h.lt
  obtain ⟨rp, but, ⟨e1, l⟩, fn, box, own⟩ := h
  have hgz := hg.size
  have hB : Below (b + 1) w w' := (Below.refl _ _).grown hg (by omega) (fun i hi => (own.within hi).1)
  have hb : Below b w (w'.setCell ⟨b, 3, none⟩ V') := Below.setCell (p := ⟨b, 3, none⟩) (hB.mono (Nat.le_succ b)) (Nat.le_refl b) V'
  refine ⟨rp.below hb (by omega), ⟨hb.os.trans but.os, hb.tape.trans but.tape, hb.output.trans but.output, Nat.le_trans but.size hb.size, fun i hi h4 h5 => (hb.block i (by omega)).trans (but.block i hi h4 h5)⟩, ⟨e1, l⟩, (hb.cell (p := ⟨_, _, none⟩) (show B + 2 < b by omega)).trans fn, ?_, Owns.setAway ho _ (by omega)⟩
  exact hset ((hB.block b (by omega)).trans box) V'
end

theorem ND.snoc {w0 w w' : World} {B : Nat} {p : Pst} {V V' Vc : Value} {L : List EntX} {e : Ent} {A : Option Addr} {n c : Nat} (h : ND w0 w B p V L) (hv : Vc = .slice A n c) (hc : strE.Own w (B + 3) Vc e.chunks) (hd : Vc.ownBlock = none ∨ Vc.ownBlock ≠ V.ownBlock) (hl : e.chunks.length ≤ 70000)
    (ho : entE.Own w' (B + 3) V' (L ++ [(e, A, n, c)])) (hg : w.grownBy w' V.ownBlock) (hat : V'.ownBlock = V.ownBlock ∨ V'.ownBlock = some w.heap.size) : ND w0 w' B p V' (L ++ [(e, A, n, c)]) := by
  obtain ⟨rp, fn, ⟨l1, l2⟩, own, sub, below⟩ := h
  have hz := hg.size
  have hB : Below (B + 3) w w' := (Below.refl _ _).grown hg (by omega) (fun i hi => (own.within hi).1)
  have key : ∀ {v : Value} {l : List ByteArray}, strE.Own w (B + 3) v l → (v.ownBlock = none ∨ v.ownBlock ≠ V.ownBlock) → strE.Own w' (B + 3) v l ∧ (v.ownBlock = none ∨ v.ownBlock ≠ V'.ownBlock) := fun {v l} h1 h2 => by
    refine ⟨Owns.grown h1 hg h2, ?_⟩
    rcases hat with hat | hat
    · rw [hat]; exact h2
    · cases hb : v.ownBlock with
      | none => exact .inl rfl
      | some i =>
        refine .inr fun e => ?_
        rw [hat] at e
        have := (Owns.within h1 hb).2
        injection e with e
        omega
  refine ⟨rp.below hB (by omega), (hB.cell (p := ⟨_, _, none⟩) (show B + 2 < B + 3 by omega)).trans fn, ⟨l1, by omega⟩, ho, fun x hx => ?_, below.trans (hB.mono (by omega))⟩
  rcases List.mem_append.1 hx with hx | hx
  · have hs := sub x hx
    exact ⟨(key hs.1 hs.2.1).1, (key hs.1 hs.2.1).2, hs.2.2⟩
  · rw [List.mem_singleton.1 hx]
    subst hv
    exact ⟨(key hc hd).1, (key hc hd).2, hl⟩
theorem rdChunks_len : ∀ (f : Nat) (p : Pst) (acc : List ByteArray), (rdChunks f p acc).1.length ≤ f + acc.length
  | 0, _, _ => by simp [rdChunks]
  | f + 1, p, acc => by
    unfold rdChunks
    split
    · (simp; try omega)
    · have := rdChunks_len f (tk 32 p).2 (acc ++ [str (tk 32 p).1])
      simp at this
      omega
theorem tk_le (n : Nat) (p : Pst) : (tk n p).1.length ≤ n := by
  unfold tk
  split
  · simp; omega
  · simp
theorem cnt_lt (m : Nat) (p : Pst) : (cnt m p).1 < 256 ^ m :=
  Nat.lt_of_lt_of_le (val_lt _) (Nat.pow_le_pow_right (by omega) (tk_le m p))
end Go.Proofs.YtdhlmhkabckbaaaGreatDoor

/-
  node.Read, if what path.May answers is a function P: the entries that rdNode tells, in new memory.
-/
namespace Go.Proofs.YtdhlmhkabckbaaaGreatDoor
open Go.RowKit

set_option maxRecDepth 100000 in
set_option maxHeartbeats 4000000 in
theorem node_Read (P : ByteArray → Bool) (hP : ∀ s W, Calls Tryz.prog 66 #[.string s] W fun e w' => e = .returned (.bool (P s)) ∧ Below W.heap.size W w') (s : ByteArray) (hs : s.size ≤ 1000000) (w : World) :
    Calls Tryz.prog 130 #[.string s] w fun e w' => ∃ A n c L, e = .returned (.tuple #[.slice A n c, .int .i64 (rdNode P s).2]) ∧ NewEnts w' w.heap.size (.slice A n c) L ∧ L.map Prod.fst = (rdNode P s).1 ∧ Below w.heap.size w w' := by
  replace hP := Lib.hid hP
  have hmf : ∀ (fn : Fn) (first cap : Array Value) (w : World), (Instr.makeFunc fn first cap).run Tryz.prog w = .ok (.func fn first cap) w := fun _ _ _ _ => rfl
  have hcv := Lib.run_convert_string_bytes (P := Tryz.prog) w 9 46 5 s Tryz.underlying9 Tryz.underlying46 Tryz.underlying5
  have hrow := bytes_rowH w 5 s (by omega)
  have hbb := below_bytesH w 5 s
  obtain ⟨cp, hcp⟩ : ∃ cp, cp = grownCap w s.size 0 5 := ⟨_, rfl⟩
  have hcp1 : s.size ≤ cp := by rw [hcp]; exact grownCap_ge w s.size 0 5
  have hcp2 : cp ≤ 9223372036854775807 := by rw [hcp]; exact Nat.le_trans (grownCap_le_maxLen w s.size 0 5 (by simp only [maxLen]; omega)) (by decide)
  rw [← hcp] at hcv
  clear hcp
  generalize Lib.bytesWorld w 5 s = w2 at hcv hrow hbb
  go_enter Tryz.func130, Tryz.ntmps130
  go_upto_region 5 with fail
  obtain ⟨B, hB⟩ : ∃ B, B = w2.heap.size := ⟨_, rfl⟩
  have hw5 : ∀ W5 : World, W5 = (((w2.alloc (.cells #[.slice (some ⟨w.heap.size, 0, none⟩) s.size cp] 46)).alloc (.cells #[.bool (decide (16384 < (s.size : Int)))] 4)).alloc (.cells #[.func (.func 183) #[] #[.pointer (some ⟨w2.heap.size, 0, none⟩), .pointer (some ⟨w2.heap.size + 1, 0, none⟩)]] 217)) →
      W5.heap.size = B + 1 + 1 + 1 ∧ Below w2.heap.size w2 W5 ∧ W5.heap[B]? = some (.cells #[.slice (some ⟨w.heap.size, 0, none⟩) s.size cp] 46) ∧ W5.heap[B + 1]? = some (.cells #[.bool (decide (16384 < (s.size : Int)))] 4) ∧
      W5.heap[B + 1 + 1]? = some (.cells #[.func (.func 183) #[] #[.pointer (some ⟨B, 0, none⟩), .pointer (some ⟨B + 1, 0, none⟩)]] 217) := by
    rintro W5 rfl
    subst hB
    refine ⟨by simp, (((Below.refl _ w2).alloc (Nat.le_refl _) _).alloc (by simp) _).alloc (by simp; omega) _, ?_, ?_, ?_⟩
    · exact halloc _ (halloc _ (heap_alloc_new w2 _))
    · exact halloc _ (by have := heap_alloc_new (w2.alloc (.cells #[.slice (some ⟨w.heap.size, 0, none⟩) s.size cp] 46)) (.cells #[.bool (decide (16384 < (s.size : Int)))] 4); simpa using this)
    · have := heap_alloc_new ((w2.alloc (.cells #[.slice (some ⟨w.heap.size, 0, none⟩) s.size cp] 46)).alloc (.cells #[.bool (decide (16384 < (s.size : Int)))] 4)) (.cells #[.func (.func 183) #[] #[.pointer (some ⟨w2.heap.size, 0, none⟩), .pointer (some ⟨w2.heap.size + 1, 0, none⟩)]] 217)
      simpa using this
  rw [← hB]
  obtain ⟨W5, hW5⟩ : ∃ W5, W5 = (((w2.alloc (.cells #[.slice (some ⟨w.heap.size, 0, none⟩) s.size cp] 46)).alloc (.cells #[.bool (decide (16384 < (s.size : Int)))] 4)).alloc (.cells #[.func (.func 183) #[] #[.pointer (some ⟨B, 0, none⟩), .pointer (some ⟨B + 1, 0, none⟩)]] 217)) := ⟨_, rfl⟩
  rw [← hW5]
  obtain ⟨hs5, hb5, q4, q5, q6⟩ := hw5 W5 (by rw [hW5, hB])
  clear hw5 hW5 hcv
  have fz : ∀ (b : Nat) (cs : Array Value) (T : TypeId), W5.heap[b]? = some (.cells cs T) → W5.frozen? ⟨b, 0, none⟩ = false := fun b cs T h => by unfold World.frozen?; simp [h]
  have nd5 : ND w W5 B (decide (16384 < (s.size : Int)), bl s) (.slice none 0 0) [] :=
    ⟨⟨⟨by omega, by omega⟩, (cell_of_row W5 _ 0 _ _ _ q5).trans rfl, fz _ _ _ q5, ⟨some ⟨w.heap.size, 0, none⟩, s.size, cp, (cell_of_row W5 _ 0 _ _ _ q4).trans rfl, by rw [hB]; exact hrow.keep fun q hq => hb5.cell hq, hcp1, hcp2⟩, fz _ _ _ q4⟩,
      (cell_of_row W5 _ 0 _ _ _ q6).trans rfl, ⟨by rw [hB]; exact hbb.size, by omega⟩, Owns.nil_, by simp, hbb.trans (hb5.mono hbb.size)⟩
  have hB5 : B + 2 < W5.heap.size := nd5.lt.2
  clear hrow hbb hB hb5 q4 q5 q6 hcp1 hcp2 hs5 fz
  obtain ⟨p0, hp0⟩ : ∃ p : Pst, p = (decide (16384 < (s.size : Int)), bl s) := ⟨_, rfl⟩
  rw [← hp0] at nd5
  obtain ⟨l4, p4, hl4⟩ : ∃ l p, tk 4 p0 = (l, p) := ⟨_, _, rfl⟩
  obtain ⟨p1, hp1⟩ : ∃ p : Pst, p = (decide (l4 ≠ [100, 105, 114, 49]) || p4.1, p4.2) := ⟨_, rfl⟩
  have ct := nd_take 4 (by omega) W5 B (B + 1) p0 nd5.rp
  rw [hl4] at ct
  have hBW : Hid (w.heap.size ≤ B) := nd5.lt.1
  have x5 := nd5.fn
  replace nd5 := Lib.hid nd5
  replace hp0 := Lib.hid hp0
  replace hl4 := Lib.hid hl4
  go_cut [] (fun wc => ND w wc B p1 (.slice none 0 0) [])
  case first =>
    go_wp2_with fail
    refine ct.mono ?_
    rintro e w6 ⟨A, n, c, rfl, hr, hp6, hb6⟩
    have nd6 := nd5.out.but hb6 hp6
    have hcv := run_bytes_str (c := c) hr
    have y6 := nd6.rp.bad
    have f6 := nd6.rp.fb
    have nd7 : ∀ b, b = p1.1 → Hid (ND w (w6.setCell ⟨B + 1, 0, none⟩ (.bool b)) B p1 (.slice none 0 0) []) := fun b hb => by
      have e1 : p1 = (b, p4.2) := by rw [hb, hp1]
      rw [e1]
      exact nd6.but ((But.refl _ _ _).set5 _) (hp6.setBad b)
    have hs6 : B + 1 < w6.heap.size := hp6.lt.2
    replace nd6 := Lib.hid nd6
    clear hp6 hr hb6
    obtain ⟨c0, hc0⟩ : ∃ c0, c0 = decide (l4 ≠ [100, 105, 114, 49]) := ⟨_, rfl⟩
    have hc1 : ((str l4).toList == [100, 105, 114, 49]) = !c0 := by
      rw [hc0]
      by_cases h : l4 = [100, 105, 114, 49] <;> simp [h, str, ByteArray.toList_eq]
    rw [← hc0] at hp1
    replace hc0 := Lib.hid hc0
    cases c0 with
    | true =>
      have n7 := nd7 true (by rw [hp1]; rfl)
      replace hp1 := Lib.hid hp1
      clear nd7
      go_wp2_with fail
      go_meet
      exact n7.out
    | false =>
      have n7 := nd7 p4.1 (by rw [hp1]; rfl)
      replace hp1 := Lib.hid hp1
      clear nd7
      go_wp2_with fail
      go_meet
      exact n7.out
  case rest =>
    obtain ⟨w1, rfl⟩ : ∃ x : World, x = wc := ⟨_, rfl⟩
    clear ct nd5 hB5 x5
    obtain ⟨n2, p2, hn2⟩ : ∃ k q, cnt 2 p1 = (k, q) := ⟨_, _, rfl⟩
    have hm2 : n2 < 65536 := by have := cnt_lt 2 p1; rw [hn2] at this; exact this
    have ct := nd_count 2 (by omega) w1 B (B + 1) (B + 1 + 1) p1 hcut.rp ⟨hcut.lt.2, by omega, by omega⟩ hcut.fn
    rw [show val (tk 2 p1).1 = n2 from congrArg Prod.fst hn2, show (tk 2 p1).2 = p2 from congrArg Prod.snd hn2] at ct
    replace hcut := Lib.hid hcut
    replace hp1 := Lib.hid hp1
    replace hn2 := Lib.hid hn2
    go_wp2_with fail
    refine ct.mono ?_
    rintro e w2 ⟨rfl, hp2, hb2⟩
    have nd2 := Lib.hid (hcut.out.but hb2 hp2)
    clear ct hp2 hb2 hcut
    go_upto_block 0 with fail
    go_cut [8] (fun V wc => Hid (∃ L p, rdEnts n2 p2 [] = (L.map Prod.fst, p) ∧ L.length ≤ n2 ∧ ND w wc B p V L))
    case first =>
      go_wp2_with fail
      go_loopw [8, 27] (fun V i wr => ∃ j : Nat, j ≤ n2 ∧ i = .int .i64 j ∧ Hid (∃ L p, rdEnts n2 p2 [] = rdEnts (n2 - j) p (L.map Prod.fst) ∧ L.length ≤ j ∧ ND w wr B p V L)) (fun _ i _ => n2 - (intOf i).toNat)
      case atStart => exact ⟨0, Nat.zero_le _, rfl, [], _, rfl, Nat.le_refl _, nd2.out⟩
      case round =>
        obtain ⟨j, hj, rfl, hinv⟩ := hrel
        obtain ⟨L, p, hres, hLj, nd⟩ := hinv.out
        clear hinv nd2
        obtain ⟨wp, rfl⟩ : ∃ x : World, x = wr := ⟨_, rfl⟩
        by_cases hlt : j < n2
        · have y0 := nd.rp.bad
          cases hb : p.1 with
          | true =>
            rw [hb] at y0
            have hdone : Hid (rdEnts n2 p2 [] = (L.map Prod.fst, p)) := by
              unfold Hid
              rw [hres, show n2 - j = (n2 - (j + 1)) + 1 by omega, rdEnts, if_pos hb]
            replace nd := Lib.hid nd
            replace hres := Lib.hid hres
            replace hb := Lib.hid hb
            go_wp2_with fail
            go_meet
            exact ⟨L, p, hdone.out, by omega, nd.out⟩
          | false =>
            rw [hb] at y0
            replace nd := Lib.hid nd
            replace hres := Lib.hid hres
            replace hb := Lib.hid hb
            go_upto_region 11 with fail
            obtain ⟨b, hbq⟩ : ∃ b, b = wp.heap.size := ⟨_, rfl⟩
            have i0 : IN wp (wp.alloc (.cells #[.string ⟨#[]⟩, .bool false, .int .i64 0, .slice none 0 0] 111)) B b p ⟨#[]⟩ false 0 (.slice none 0 0) [] := by
              have hbA : Below wp.heap.size wp (wp.alloc (.cells #[.string ⟨#[]⟩, .bool false, .int .i64 0, .slice none 0 0] 111)) := (Below.refl _ wp).alloc (Nat.le_refl _) _
              have hl := nd.out.lt.2
              exact ⟨nd.out.rp.below hbA (by omega), But.of hbA, ⟨hbq, by omega⟩, (hbA.cell (p := ⟨_, _, none⟩) hl).trans nd.out.fn, by rw [hbq]; exact heap_alloc_new wp _, Owns.nil_⟩
            rw [← hbq]
            generalize wp.alloc (.cells #[.string ⟨#[]⟩, .bool false, .int .i64 0, .slice none 0 0] 111) = wa at i0 ⊢
            replace hbq := Lib.hid hbq
            have hB2b : B + 1 + 1 < b := i0.at_.2
            have hbn : b ≠ B + 1 + 1 := by omega
            have hbn' : B + 1 + 1 ≠ b := by omega
            clear y0
            obtain ⟨k1, p5, h5⟩ : ∃ k q, cnt 1 p = (k, q) := ⟨_, _, rfl⟩
            have ct := nd_count 1 (by omega) wa B (B + 1) (B + 1 + 1) p i0.rp ⟨by have := i0.lt; omega, by omega, by omega⟩ i0.fn
            rw [show val (tk 1 p).1 = k1 from congrArg Prod.fst h5, show (tk 1 p).2 = p5 from congrArg Prod.snd h5] at ct
            replace i0 := Lib.hid i0
            replace h5 := Lib.hid h5
            go_wp2_with fail
            refine ct.mono ?_
            rintro e wb ⟨rfl, hp, hbb⟩
            have i1 := i0.out.to hbb hp
            have y1 := i1.rp.bad
            have f1 := i1.rp.fb
            clear ct hp hbb i0
            obtain ⟨p6, h6⟩ : ∃ q : Pst, q = (p5.1 || decide (1 < (k1 : Int)), p5.2) := ⟨_, rfl⟩
            have i2 : ∀ c, c = p6.1 → Hid (IN wp (wb.setCell ⟨B + 1, 0, none⟩ (.bool c)) B b p6 ⟨#[]⟩ false 0 (.slice none 0 0) []) := fun c hc => by
              have e1 : p6 = (c, p5.2) := by rw [hc, h6]
              rw [e1]
              exact i1.to ((But.refl _ _ _).set5 _) (i1.rp.setBad c)
            have hs1 : B + 1 < wb.heap.size := i1.rp.lt.2
            replace i1 := Lib.hid i1
            go_upto_region 12 with fail
            go_cut [] (fun wc => IN wp wc B b p6 ⟨#[]⟩ false 0 (.slice none 0 0) [])
            case first =>
              cases h51 : p5.1 with
              | true =>
                rw [h51] at y1 h6
                have i3 := i2 true (by rw [h6]; rfl)
                replace h6 := Lib.hid h6
                replace h51 := Lib.hid h51
                clear i2
                go_wp2_with fail
                go_meet
                exact i3.out
              | false =>
                rw [h51] at y1 h6
                have i3 := i2 (decide (1 < (k1 : Int))) (by rw [h6]; rfl)
                replace h6 := Lib.hid h6
                replace h51 := Lib.hid h51
                clear i2
                go_wp2_with fail
                go_meet
                exact i3.out
            case rest =>
              obtain ⟨wq, rfl⟩ : ∃ x : World, x = wc := ⟨_, rfl⟩
              clear i1 i2 y1 f1 hs1
              obtain ⟨k2, p7, h7⟩ : ∃ k q, cnt 1 p6 = (k, q) := ⟨_, _, rfl⟩
              obtain ⟨l8, p8, h8⟩ : ∃ k q, tk k2 p7 = (k, q) := ⟨_, _, rfl⟩
              have hk2 : k2 < 256 := by have := cnt_lt 1 p6; rw [h7] at this; exact this
              have id := hcut.drew
              have ct1 := nd_count 1 (by omega) wq.drew B (B + 1) (B + 1 + 1) p6 id.rp ⟨by have := id.lt; omega, by omega, by omega⟩ id.fn
              rw [show val (tk 1 p6).1 = k2 from congrArg Prod.fst h7, show (tk 1 p6).2 = p7 from congrArg Prod.snd h7] at ct1
              have ct2 : ∀ W, RP W B (B + 1) p7 → Calls Tryz.prog 183 #[.int .i64 k2, .pointer (some ⟨B, 0, none⟩), .pointer (some ⟨B + 1, 0, none⟩)] W fun e w' => ∃ A' n' c', e = .returned (.slice A' n' c') ∧ BytesAt w' B A' n' l8 ∧ RP w' B (B + 1) p8 ∧ But B (B + 1) W w' := fun W hW => by
                have := nd_take k2 (by omega) W B (B + 1) p7 hW
                rwa [h8] at this
              have x0 : wq.cell? ⟨B + 1 + 1, 0, none⟩ = some (takFn B) := hcut.fn
              have hBq : B < wq.heap.size := by have := hcut.lt; omega
              replace hcut := Lib.hid hcut
              replace id := Lib.hid id
              replace ct1 := Lib.hid ct1
              replace ct2 := Lib.hid ct2
              replace h6 := Lib.hid h6
              replace h7 := Lib.hid h7
              replace h8 := Lib.hid h8
              go_wp2_with fail
              refine region_held_tail 9 (fun W : World => W.cell? ⟨B + 1 + 1, 0, none⟩ = some (takFn B) ∧ Below B wq W) (by kernel_rfl) (by kernel_rfl) ?_
              have hHeld : (fun W : World => W.cell? ⟨B + 1 + 1, 0, none⟩ = some (takFn B) ∧ Below B wq W) wq.drew := ⟨x0, (Below.refl _ _).drew⟩
              (refine HT.take (i := 0) (v := ?_) rfl (by kernel_rfl) (fun _ _ _ h => h) (Or.inl ⟨by rfl, ?_⟩) (by assumption) ?_
               rotate_left
               · (intro w hSw; (try dsimp only at hSw); go_simp; (try with_reducible rfl))
               try simp only [Act.put, List.setIfInBounds_toArray, List.set_cons_zero, List.set_cons_succ])
              (refine HT.take (i := 1) (v := ?_) rfl (by kernel_rfl) (fun _ _ _ h => h) (Or.inl ⟨by rfl, ?_⟩) (by assumption) ?_
               rotate_left
               · (intro w hSw; (try dsimp only at hSw); go_simp; (try with_reducible rfl))
               try simp only [Act.put, List.setIfInBounds_toArray, List.set_cons_zero, List.set_cons_succ])
              (refine HT.take (i := 2) (v := ?_) rfl (by kernel_rfl) (fun _ _ _ h => h) (Or.inl ⟨by rfl, ?_⟩) (by assumption) ?_
               rotate_left
               · (intro w hSw; (try dsimp only at hSw); go_simp; (try with_reducible rfl))
               try simp only [Act.put, List.setIfInBounds_toArray, List.set_cons_zero, List.set_cons_succ])
              (refine HT.take (i := 3) (v := ?_) rfl (by kernel_rfl) (fun _ _ _ h => h) (Or.inl ⟨by rfl, ?_⟩) (by assumption) ?_
               rotate_left
               · (intro w hSw; (try dsimp only at hSw); go_simp; (try with_reducible rfl))
               try simp only [Act.put, List.setIfInBounds_toArray, List.set_cons_zero, List.set_cons_succ])
              (refine HT.take (i := 7) (v := ?_) rfl (by kernel_rfl) (fun _ _ _ h => h) (Or.inl ⟨by rfl, ?_⟩) (by assumption) ?_
               rotate_left
               · (intro w hSw; (try dsimp only at hSw); go_simp; (try with_reducible rfl))
               try simp only [Act.put, List.setIfInBounds_toArray, List.set_cons_zero, List.set_cons_succ])
              (refine HT.only (i := 4) rfl (by kernel_rfl) (fun K hK => ?_)
               (go_simp; (go_at_call_of 184 (Value.int IntKind.i64 1); refine ct1.out.mono ?_; rintro e m1 ⟨rfl, hq1, hg1⟩; have j1 := id.out.to hg1 hq1; have x1 := j1.fn; have u1 : Below B wq m1 := (Below.refl B wq).drew.trans (hg1.below (Nat.le_refl _) (Nat.le_succ _) (Nat.le_of_lt hBq))))
               refine hK.out _ _ ?_ (fun hHeld => ?_)
               · (exact ⟨x1, u1⟩)
               clear hK K
               try simp only [Act.put, List.setIfInBounds_toArray, List.set_cons_zero, List.set_cons_succ])
              (refine HT.only (i := 5) rfl (by kernel_rfl) (fun K hK => ?_)
               (go_simp; (go_at_call_of 183 (Value.int IntKind.i64 k2); refine (ct2.out m1 hq1).mono ?_; rintro e m2 ⟨A2, n3, c2, rfl, hr2, hq2, hg2⟩; have j2 := j1.to hg2 hq2; have x2 := j2.fn; have u2 : Below B wq m2 := u1.trans (hg2.below (Nat.le_refl _) (Nat.le_succ _) (by have := u1.size; omega)); have hcv2 := fun (W : World) (hW : Below B wq W) => run_bytes_str (c := c2) (hr2.keep fun q hq => (hW.cell hq).trans (u2.cell hq).symm)))
               refine hK.out _ _ ?_ (fun hHeld => ?_)
               · (exact ⟨x2, u2⟩)
               clear hK K
               try simp only [Act.put, List.setIfInBounds_toArray, List.set_cons_zero, List.set_cons_succ])
              (refine HT.take (i := 6) (v := .string (str l8)) rfl (by kernel_rfl) (fun _ _ _ h => h) (Or.inl ⟨by rfl, ?_⟩) (by assumption) ?_
               · (intro wS hSw; have hcw := hcv2 wS hSw.2; go_simp; (try with_reducible rfl))
               try simp only [Act.put, List.setIfInBounds_toArray, List.set_cons_zero, List.set_cons_succ])
              obtain ⟨z0, z1, z2, z3⟩ := j2.cells
              have f1 := j2.frozen 1
              have j3 := j2.set 1 (.bool ((k1 : Int) == 1)) ⟨#[]⟩ ((k1 : Int) == 1) 0 rfl
              (refine HT.only (i := 8) rfl (by kernel_rfl) (fun K hK => ?_)
               (go_simp)
               refine hK.out _ _ ?_ (fun hHeld => ?_)
               · (exact ⟨j3.fn, u2.setCell (p := ⟨b, 1, none⟩) (show B ≤ b by omega) _⟩)
               clear hK K
               try simp only [Act.put, List.setIfInBounds_toArray, List.set_cons_zero, List.set_cons_succ])
              have j4 := j3.set 0 (.string (str l8)) (str l8) ((k1 : Int) == 1) 0 rfl
              have f0 := j2.frozen 0
              refine HT.tail (by kernel_rfl) ?_
              simp only [List.drop_succ_cons, List.drop_zero]
              replace j2 := Lib.hid j2
              replace j1 := Lib.hid j1
              replace j3 := Lib.hid j3
              replace j4 := Lib.hid j4
              clear hr2 hg2 hq2 hg1 hq1 hcv2 x0 x1 x2 ct1 ct2 id hcut hHeld u1 u2 z1 z2 z3
              go_upto_region 14 with fail
              generalize ((m2.setCell ⟨b, 1, none⟩ (.bool ((k1 : Int) == 1))).setCell ⟨b, 0, none⟩ (.string (str l8))) = wr at j4 ⊢
              clear f0 f1 z0 j2 j3
              obtain ⟨n4, p9, h9⟩ : ∃ k q, cnt 4 p8 = (k, q) := ⟨_, _, rfl⟩
              have hj4 := j4.out
              have ct := nd_count 4 (by omega) wr B (B + 1) (B + 1 + 1) p8 hj4.rp ⟨by have := hj4.lt; omega, by omega, by omega⟩ hj4.fn
              rw [show val (tk 4 p8).1 = n4 from congrArg Prod.fst h9, show (tk 4 p8).2 = p9 from congrArg Prod.snd h9] at ct
              clear hj4
              replace h9 := Lib.hid h9
              go_wp2_with fail
              refine ct.mono ?_
              rintro e ws ⟨rfl, hp, hbb⟩
              have j5 := j4.out.to hbb hp
              have z2 := j5.cells.2.2.1
              have f2 := j5.frozen 2
              have j6 := j5.set 2 (.int .i64 n4) (str l8) ((k1 : Int) == 1) n4 rfl
              clear hp hbb ct j4
              replace j5 := Lib.hid j5
              go_upto_region 15 with fail
              generalize (ws.setCell ⟨b, 2, none⟩ (.int .i64 n4)) = wt at j6 ⊢
              clear j5 z2 f2
              obtain ⟨m3, pa, ha⟩ : ∃ k q, cnt 2 p9 = (k, q) := ⟨_, _, rfl⟩
              have hm3 : m3 < 65536 := by have := cnt_lt 2 p9; rw [ha] at this; exact this
              have ct := nd_count 2 (by omega) wt B (B + 1) (B + 1 + 1) p9 j6.rp ⟨by have := j6.lt; omega, by omega, by omega⟩ j6.fn
              rw [show val (tk 2 p9).1 = m3 from congrArg Prod.fst ha, show (tk 2 p9).2 = pa from congrArg Prod.snd ha] at ct
              replace ha := Lib.hid ha
              replace j6 := Lib.hid j6
              go_wp2_with fail
              refine ct.mono ?_
              rintro e wu ⟨rfl, hp, hbb⟩
              have j7 := Lib.hid (j6.out.to hbb hp)
              clear hp hbb ct j6
              go_upto_block 2 with fail
              go_cut [] (fun wc => Hid (∃ cs V q, rdChunks m3 pa [] = (cs, q) ∧ IN wp wc B b q (str l8) ((k1 : Int) == 1) n4 V cs))
              case first =>
                go_wp2_with fail
                go_loopw [52] (fun i wr => ∃ j : Nat, j ≤ m3 ∧ i = .int .i64 j ∧ Hid (∃ cs V q, rdChunks m3 pa [] = rdChunks (m3 - j) q cs ∧ cs.length ≤ j ∧ IN wp wr B b q (str l8) ((k1 : Int) == 1) n4 V cs)) (fun i _ => m3 - (intOf i).toNat)
                case atStart => exact ⟨0, Nat.zero_le _, rfl, _, _, _, rfl, Nat.le_refl _, j7.out⟩
                case round =>
                  obtain ⟨i, hi, rfl, hinv⟩ := hrel
                  obtain ⟨cs, V, q, hrc, hci, jn⟩ := hinv.out
                  clear hinv j7
                  obtain ⟨wv, rfl⟩ : ∃ x : World, x = wr := ⟨_, rfl⟩
                  by_cases hilt : i < m3
                  · have y0 := jn.rp.bad
                    cases hbq2 : q.1 with
                    | true =>
                      rw [hbq2] at y0
                      have hdone : Hid (rdChunks m3 pa [] = (cs, q)) := by
                        unfold Hid
                        rw [hrc, show m3 - i = (m3 - (i + 1)) + 1 by omega, rdChunks, if_pos hbq2]
                      replace jn := Lib.hid jn
                      replace hrc := Lib.hid hrc
                      replace hbq2 := Lib.hid hbq2
                      go_wp2_with fail
                      go_meet
                      exact ⟨_, _, _, hdone.out, jn.out⟩
                    | false =>
                      rw [hbq2] at y0
                      obtain ⟨l9, q1, hq9⟩ : ∃ k q', tk 32 q = (k, q') := ⟨_, _, rfl⟩
                      have hstep : Hid (rdChunks m3 pa [] = rdChunks (m3 - (i + 1)) q1 (cs ++ [str l9])) := by
                        unfold Hid
                        rw [hrc, show m3 - i = (m3 - (i + 1)) + 1 by omega, rdChunks, if_neg (by rw [hbq2]; simp), hq9]
                      obtain ⟨A3, c3, rfl⟩ := Owns.form jn.own
                      have jd := jn.drew
                      have ct := nd_take 32 (by omega) wv.drew B (B + 1) q jd.rp
                      rw [hq9] at ct
                      have x0 : wv.cell? ⟨B + 1 + 1, 0, none⟩ = some (takFn B) := jn.fn
                      have z3 := jn.cells.2.2.2
                      replace jn := Lib.hid jn
                      replace jd := Lib.hid jd
                      replace ct := Lib.hid ct
                      replace hrc := Lib.hid hrc
                      replace hbq2 := Lib.hid hbq2
                      replace hq9 := Lib.hid hq9
                      go_wp2_with fail
                      refine region_held_tail 7 (fun W : World => W.cell? ⟨b, 3, none⟩ = some (.slice A3 cs.length c3) ∧ W.cell? ⟨B + 1 + 1, 0, none⟩ = some (takFn B)) (by kernel_rfl) (by kernel_rfl) ?_
                      have hHeld : (fun W : World => W.cell? ⟨b, 3, none⟩ = some (.slice A3 cs.length c3) ∧ W.cell? ⟨B + 1 + 1, 0, none⟩ = some (takFn B)) wv.drew := ⟨z3, x0⟩
                      (refine HT.take (i := 0) (v := ?_) rfl (by kernel_rfl) (fun _ _ _ h => h) (Or.inl ⟨by rfl, ?_⟩) (by assumption) ?_
                       rotate_left
                       · (intro w hSw; (try dsimp only at hSw); go_simp; (try with_reducible rfl))
                       try simp only [Act.put, List.setIfInBounds_toArray, List.set_cons_zero, List.set_cons_succ])
                      (refine HT.take (i := 1) (v := ?_) rfl (by kernel_rfl) (fun _ _ _ h => h) (Or.inl ⟨by rfl, ?_⟩) (by assumption) ?_
                       rotate_left
                       · (intro w hSw; (try dsimp only at hSw); go_simp; (try with_reducible rfl))
                       try simp only [Act.put, List.setIfInBounds_toArray, List.set_cons_zero, List.set_cons_succ])
                      (refine HT.take (i := 2) (v := ?_) rfl (by kernel_rfl) (fun _ _ _ h => h) (Or.inl ⟨by rfl, ?_⟩) (by assumption) ?_
                       rotate_left
                       · (intro w hSw; (try dsimp only at hSw); go_simp; (try with_reducible rfl))
                       try simp only [Act.put, List.setIfInBounds_toArray, List.set_cons_zero, List.set_cons_succ])
                      (refine HT.only (i := 3) rfl (by kernel_rfl) (fun K hK => ?_)
                       (go_simp; (go_at_call_of 183 (Value.int IntKind.i64 32); refine ct.out.mono ?_; rintro e v1 ⟨A4, n5, c4, rfl, hr1, hq1, hg1⟩; have j8 := jd.out.to hg1 hq1; have x1 := j8.fn; have z4 := j8.cells.2.2.2; have hcv := run_bytes_str (c := c4) hr1))
                       refine hK.out _ _ ?_ (fun hHeld => ?_)
                       · (exact ⟨z4, x1⟩)
                       clear hK K
                       try simp only [Act.put, List.setIfInBounds_toArray, List.set_cons_zero, List.set_cons_succ])
                      (refine HT.only (i := 4) rfl (by kernel_rfl) (fun K hK => ?_)
                       (go_simp)
                       refine hK.out _ _ ?_ (fun hHeld => ?_)
                       · (exact ⟨z4, x1⟩)
                       clear hK K
                       try simp only [Act.put, List.setIfInBounds_toArray, List.set_cons_zero, List.set_cons_succ])
                      (refine HT.only (i := 5) rfl (by kernel_rfl) (fun K hK => ?_)
                       go_simp
                       refine hK.out _ _ ?_ (fun hHeld => ?_)
                       · (exact ⟨(j8.alloc _).cells.2.2.2, (j8.alloc _).fn⟩)
                       clear hK K
                       try simp only [Act.put, List.setIfInBounds_toArray, List.set_cons_zero, List.set_cons_succ])
                      (refine HT.only (i := 6) rfl (by kernel_rfl) (fun K hK => ?_)
                       (refine Elem.step_one strE (by rfl) (.tmp 56) (.tmp 60) (by rfl) (b + 1) (.slice A3 cs.length c3) cs (by rfl) _ _ (str l9) (by rfl) (by exact (j8.alloc _).own) (by intro j u hu; rcases j with _ | j <;> simp [strE, strCell] at hu <;> subst hu <;> go_simp) (by omega) (by have := (j8.alloc (.cells #[.string (str l9)] 9)).lt; omega) ?_; intro v2 v3 hown hg hat; obtain ⟨A5, c5, rfl⟩ := Owns.form hown; have jA := j8.alloc (.cells #[.string (str l9)] 9); have jB := jA.grow hown hg; have hBx : Below (b + 1) _ v3 := (Below.refl (b + 1) _).grown hg (by have := jA.lt; omega) (fun i hi => (Owns.within jA.own hi).1); have z5 := (hBx.cell (p := ⟨b, 3, none⟩) (show b < b + 1 by omega)).trans jA.cells.2.2.2; have f5 := (hBx.frozen (p := ⟨b, 3, none⟩) (show b < b + 1 by omega)).trans (jA.frozen 3); have x5 := (hBx.cell (p := ⟨B + 1 + 1, 0, none⟩) (show B + 1 + 1 < b + 1 by omega)).trans jA.fn)
                       refine hK.out _ _ ?_ (fun hHeld => ?_)
                       · (exact ⟨z5, x5⟩)
                       clear hK K
                       try simp only [Act.put, List.setIfInBounds_toArray, List.set_cons_zero, List.set_cons_succ])
                      refine HT.tail (by kernel_rfl) ?_
                      simp only [List.drop_succ_cons, List.drop_zero]
                      replace jB := Lib.hid jB
                      replace j8 := Lib.hid j8
                      replace jA := Lib.hid jA
                      clear hg hat hown hBx x0 z3 x1 z4 hcv hr1 hq1 hg1 ct
                      have hlen : (cs ++ [str l9]).length = cs.length + 1 := by simp
                      rw [hlen] at jB ⊢
                      go_wp2_with fail
                      go_roundw
                      case rel => exact ⟨i + 1, by omega, by go_num, ⟨_, _, _, hstep.out, by simp; omega, jB.out⟩⟩
                      case measure => simp [intOf]; omega
                  · obtain rfl : i = m3 := by omega
                    have hdone : Hid (rdChunks i pa [] = (cs, q)) := by
                      unfold Hid
                      rw [hrc, Nat.sub_self, rdChunks]
                    replace jn := Lib.hid jn
                    replace hrc := Lib.hid hrc
                    go_wp2_with fail
                    go_meet
                    exact ⟨_, _, _, hdone.out, jn.out⟩
              case rest =>
                obtain ⟨wx, rfl⟩ : ∃ x : World, x = wc := ⟨_, rfl⟩
                obtain ⟨cs, Vc, q, hrc, jn⟩ := hcut.out
                clear hcut j7
                have hcl : cs.length ≤ m3 := by have := rdChunks_len m3 pa []; rw [hrc] at this; simpa using this
                obtain ⟨A3, c3, rfl⟩ := Owns.form jn.own
                obtain ⟨z0, z1, z2, z3⟩ := jn.cells
                have ndx := nd.out.but jn.but jn.rp
                have hdis := Lib.hid (nd.out.own)
                have hstep : Hid (rdEnts n2 p2 [] = rdEnts (n2 - (j + 1)) q ((L ++ [((⟨str l8, (k1 : Int) == 1, n4, cs⟩ : Ent), A3, cs.length, c3)]).map Prod.fst)) := by
                  have hr : rdEnt p = (⟨str l8, (k1 : Int) == 1, n4, cs⟩, q) := by
                    unfold rdEnt
                    dsimp only
                    rw [h5.out]
                    dsimp only
                    rw [← h6.out, h7.out]
                    dsimp only
                    rw [h8.out]
                    dsimp only
                    rw [h9.out]
                    dsimp only
                    rw [ha.out]
                    dsimp only
                    rw [hrc]
                  unfold Hid
                  rw [hres.out, show n2 - j = (n2 - (j + 1)) + 1 by omega, rdEnts, if_neg (by rw [hb.out]; simp), hr, List.map_append]
                  rfl
                have hownA := ndx.own
                have hL2 : L.length ≤ 1000000000 := by omega
                replace hrc := Lib.hid hrc
                replace nd := Lib.hid nd
                replace jn := Lib.hid jn
                replace ndx := Lib.hid ndx
                go_wp2_with (at_builtin; go_must (refine Elem.wpList_one entE rfl (.tmp 64) (.tmp 66) rfl (B + 3) _ L rfl _ _ ((⟨str l8, (k1 : Int) == 1, n4, cs⟩ : Ent), A3, cs.length, c3) rfl (Owns.alloc hownA _) (fun j u hu => by rcases j with _ | _ | _ | _ | j <;> simp [entE, entCells] at hu <;> subst hu <;> go_simp) hL2 (by have := jn.out.lt; simp; omega) ?_); intro v9 w9 hown hg hat)
                have hbA : Below wx.heap.size wx (wx.alloc (.cells #[.string (str l8), .bool ((k1 : Int) == 1), .int .i64 n4, .slice A3 cs.length c3] 111)) := (Below.refl _ wx).alloc (Nat.le_refl _) _
                have hcd : (Value.slice A3 cs.length c3).ownBlock = none ∨ (Value.slice A3 cs.length c3).ownBlock ≠ u8.ownBlock := by
                  cases hob : (Value.slice A3 cs.length c3).ownBlock with
                  | none => exact .inl rfl
                  | some i =>
                    refine .inr fun e => ?_
                    have h1 := (Owns.within jn.out.own hob).1
                    have h2 := (Owns.within hdis.out e.symm).2
                    have h3 := jn.out.at_.1
                    omega
                have nd' := (ndx.out.but (But.of hbA) (ndx.out.rp.below hbA (by have := ndx.out.lt.2; omega))).snoc (e := ⟨str l8, (k1 : Int) == 1, n4, cs⟩) rfl (Owns.alloc (Owns.from jn.out.own (show B + 3 ≤ b + 1 by omega)) _) hcd (show cs.length ≤ 70000 by omega) hown hg hat
                go_roundw
                case rel => exact ⟨j + 1, by omega, by go_num, ⟨_, _, hstep.out, by simp; omega, nd'⟩⟩
                case measure => simp [intOf]; omega
        · obtain rfl : j = n2 := by omega
          have hdone : Hid (rdEnts j p2 [] = (L.map Prod.fst, p)) := by
            unfold Hid
            rw [hres, Nat.sub_self, rdEnts]
          replace nd := Lib.hid nd
          replace hres := Lib.hid hres
          go_wp2_with fail
          go_meet
          exact ⟨L, p, hdone.out, by omega, nd.out⟩
    case rest =>
      obtain ⟨wx, rfl⟩ : ∃ x : World, x = wc := ⟨_, rfl⟩
      obtain ⟨L, p, hres, hLn, nd⟩ := hcut.out
      clear hcut nd2
      obtain ⟨A9, c9, rfl⟩ := Owns.form nd.own
      have hN : rdNode P s = if p.1 || decide (0 < p.2.length) || !mayN P (L.map Prod.fst) then ([], 4) else (L.map Prod.fst, 0) := by
        unfold rdNode
        dsimp only
        rw [← hp0.out, hl4.out]
        dsimp only
        rw [← hp1.out, hn2.out]
        dsimp only
        rw [hres]
      have y0 := nd.rp.bad
      obtain ⟨A7, n7, c7, y1, hr7, -, -⟩ := nd.rp.rest
      obtain rfl : p.2.length = n7 := hr7.1
      have hEA := nd.row
      have hNE := Lib.hid nd.new
      have hbel := nd.below
      have hM := node_May P A9 L.length c9 L wx hEA (fun x _ => hP.out x.1.name)
      clear hr7
      replace nd := Lib.hid nd
      replace hres := Lib.hid hres
      replace hEA := Lib.hid hEA
      have hnone : ∀ W : World, NewEnts W w.heap.size (.slice none 0 0) [] := fun W => NewEnts.nil W _
      cases hb : p.1 with
      | true =>
        rw [hb] at y0 hN
        have hN2 : Hid (rdNode P s = ([], 4)) := hN
        clear hN
        replace hb := Lib.hid hb
        go_wp2_with fail
        refine bodyPost_ret (v := ?_) (by simp [results, Tryz.results130, go_sem]; rfl) rfl ?_
        rw [hN2.out]
        exact ⟨none, 0, 0, [], rfl, hnone _, rfl, hbel⟩
      | false =>
        rw [hb] at y0 hN
        replace hb := Lib.hid hb
        rcases Nat.eq_zero_or_pos p.2.length with h0 | h0
        · rw [h0] at y1 hN
          cases hmm : mayN P (L.map Prod.fst) with
          | false =>
            rw [hmm] at hN hM
            have hN2 : Hid (rdNode P s = ([], 4)) := hN
            clear hN
            replace hmm := Lib.hid hmm
            go_wp2_with fail
            refine hM.mono ?_
            rintro e wy ⟨rfl, hby⟩
            go_wp2_with fail
            refine bodyPost_ret (v := ?_) (by simp [results, Tryz.results130, go_sem]; rfl) rfl ?_
            rw [hN2.out]
            exact ⟨none, 0, 0, [], rfl, hnone _, rfl, hbel.trans (hby.mono hbel.size)⟩
          | true =>
            rw [hmm] at hN hM
            have hN2 : Hid (rdNode P s = (L.map Prod.fst, 0)) := hN
            clear hN
            replace hmm := Lib.hid hmm
            go_wp2_with fail
            refine hM.mono ?_
            rintro e wy ⟨rfl, hby⟩
            go_wp2_with fail
            refine bodyPost_ret (v := ?_) (by simp [results, Tryz.results130, go_sem]; rfl) rfl ?_
            rw [hN2.out]
            exact ⟨A9, L.length, c9, L, rfl, hNE.out.below hby, rfl, hbel.trans (hby.mono hbel.size)⟩
        · have hN2 : Hid (rdNode P s = ([], 4)) := by
            unfold Hid
            rw [hN, decide_eq_true h0]
            rfl
          have hi1 : (0 : Int) < (p.2.length : Int) := by omega
          clear hN
          go_wp2_with fail
          refine bodyPost_ret (v := ?_) (by simp [results, Tryz.results130, go_sem]; rfl) rfl ?_
          rw [hN2.out]
          exact ⟨none, 0, 0, [], rfl, hnone _, rfl, hbel⟩
end Go.Proofs.YtdhlmhkabckbaaaGreatDoor
