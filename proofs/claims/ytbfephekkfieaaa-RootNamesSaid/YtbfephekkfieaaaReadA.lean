/-
  What root.Read reads with: the contracts of its two function literals, take and get.
-/
import Derived.Test.YtbfephekkfieaaaVal
import Derived.Test.YtbfephekkfieaaaStr
import Derived.Lib.ConvBytes
import Derived.Deep.Heap
namespace Go.Proofs.Ytbfephekkfieaaa
open Go.RowKit

/-- w' is w, but for the blocks b4 and b5, and for what is new. -/
structure But (b4 b5 : Nat) (w w' : World) : Prop where
  os : w'.os = w.os
  tape : w'.tape = w.tape
  output : w'.output = w.output
  size : w.heap.size ≤ w'.heap.size
  block : ∀ i, i < w.heap.size → i ≠ b4 → i ≠ b5 → w'.heap[i]? = w.heap[i]?
section
variable {b4 b5 : Nat} {w w' w'' : World}
theorem But.refl (b4 b5 : Nat) (w : World) : But b4 b5 w w := ⟨rfl, rfl, rfl, Nat.le_refl _, fun _ _ _ _ => rfl⟩
theorem But.trans (h : But b4 b5 w w') (h' : But b4 b5 w' w'') : But b4 b5 w w'' :=
  ⟨h'.os.trans h.os, h'.tape.trans h.tape, h'.output.trans h.output, Nat.le_trans h.size h'.size, fun i hi h4 h5 => (h'.block i (Nat.lt_of_lt_of_le hi h.size) h4 h5).trans (h.block i hi h4 h5)⟩
theorem But.of (h : Below w.heap.size w w') : But b4 b5 w w' := ⟨h.os, h.tape, h.output, h.size, fun i hi _ _ => h.block i hi⟩
theorem But.cell (h : But b4 b5 w w') {b : Nat} (o : Nat) (hb : b < w.heap.size) (h4 : b ≠ b4) (h5 : b ≠ b5) : w'.cell? ⟨b, o, none⟩ = w.cell? ⟨b, o, none⟩ := World.cell?_of_block (h.block b hb h4 h5)
theorem But.frozen (h : But b4 b5 w w') {b : Nat} (o : Nat) (hb : b < w.heap.size) (h4 : b ≠ b4) (h5 : b ≠ b5) : w'.frozen? ⟨b, o, none⟩ = w.frozen? ⟨b, o, none⟩ := by
  have := h.block b hb h4 h5
  unfold World.frozen?
  simp only [this]
theorem But.below (h : But b4 b5 w w') {B : Nat} (h4 : B ≤ b4) (h5 : B ≤ b5) (hB : B ≤ w.heap.size) : Below B w w' := ⟨h.os, h.tape, h.output, h.size, fun i hi => h.block i (by omega) (by omega) (by omega)⟩
theorem But.owns {α : Type} {k : Nat} {enc : α → List Value} {T : TypeId} {base : Nat} {v : Value} {l : List α} (h : But b4 b5 w w') (ho : Owns k enc T w base v l) (h4 : b4 < base) (h5 : b5 < base) : Owns k enc T w' base v l :=
  ⟨ho.1, ho.2.imp id fun ⟨g, cap, cur, e, hg, hh, r⟩ => ⟨g, cap, cur, e, hg, (h.block g (Array.getElem?_eq_some_iff.1 hh).1 (by omega) (by omega)).trans hh, r⟩⟩
theorem But.set4 (h : But b4 b5 w w') (v : Value) : But b4 b5 w (w'.setCell ⟨b4, 0, none⟩ v) :=
  ⟨h.os, h.tape, h.output, by simpa using h.size, fun i hi h4 h5 => (Go.Deep.blk_setCell_other _ _ _ _ h4).trans (h.block i hi h4 h5)⟩
theorem But.set5 (h : But b4 b5 w w') (v : Value) : But b4 b5 w (w'.setCell ⟨b5, 0, none⟩ v) :=
  ⟨h.os, h.tape, h.output, by simpa using h.size, fun i hi h4 h5 => (Go.Deep.blk_setCell_other _ _ _ _ h5).trans (h.block i hi h4 h5)⟩
end

/-- The two boxes hold what is read so far. -/
structure RP (w : World) (b4 b5 : Nat) (p : Pst) : Prop where
  lt : b4 < b5 ∧ b5 < w.heap.size
  bad : w.cell? ⟨b5, 0, none⟩ = some (.bool p.1)
  fb : w.frozen? ⟨b5, 0, none⟩ = false
  rest : ∃ A n c, w.cell? ⟨b4, 0, none⟩ = some (.slice A n c) ∧ BytesAt w b4 A n p.2 ∧ n ≤ c ∧ c ≤ 9223372036854775807
  fr : w.frozen? ⟨b4, 0, none⟩ = false

theorem bl_size (a : ByteArray) : (bl a).length = a.size := by simp [bl]
theorem below_bytes (w : World) (e : TypeId) (s : ByteArray) : Below w.heap.size w (Lib.bytesWorld w e s) :=
  ⟨rfl, rfl, rfl, by rw [Lib.bytesWorld_size]; omega, fun i hi => Lib.bytesWorld_at_old w e s i hi⟩
theorem bytes_row (w : World) (e : TypeId) (s : ByteArray) (h : s.size ≤ 9223372036854775807) : BytesAt (Lib.bytesWorld w e s) (w.heap.size + 1) (some ⟨w.heap.size, 0, none⟩) s.size (bl s) := by
  refine ⟨bl_size s, h, fun _ => ⟨_, _, rfl, by omega, fun i x hx j v hv => ?_⟩⟩
  have hi : i < s.size := by rw [← bl_size]; exact (List.getElem?_eq_some_iff.1 hx).1
  match j, hv with
  | 0, hv =>
    simp [byteCell] at hv
    subst hv
    have := Lib.bytesWorld_cell w e s i hi
    rw [List.getD_eq_getElem?_getD, hx] at this
    simpa using this
  | j + 1, hv => simp [byteCell] at hv

theorem BytesAt.cut {w : World} {B : Nat} {A : Option Addr} {m c : Nat} {l : List UInt8} (h : BytesAt w B A m l) {n : Nat} (hn : n ≤ m) (hc : m ≤ c) : BytesAt w B (if c = n then A else A.map (·.add n)) (m - n) (l.drop n) := by
  refine ⟨by simp [h.1], by have := h.2.1; omega, fun h0 => ?_⟩
  obtain ⟨b, off, rfl, hb, hcl⟩ := h.2.2 (by omega)
  rw [if_neg (by omega)]
  refine ⟨b, off + n, by simp [Addr.add_lit], hb, fun i x hx j v hv => ?_⟩
  rw [List.getElem?_drop] at hx
  have := hcl _ x hx j v hv
  rw [show off + n + i * 1 + j = off + (n + i) * 1 + j by omega]
  exact this
theorem BytesAt.head {w : World} {B : Nat} {A : Option Addr} {m : Nat} {l : List UInt8} (h : BytesAt w B A m l) {n : Nat} (hn : n ≤ m) : BytesAt w B A n (l.take n) := by
  refine ⟨by simp [h.1, hn], by have := h.2.1; omega, fun h0 => ?_⟩
  obtain ⟨b, off, e, hb, hcl⟩ := h.2.2 (by omega)
  refine ⟨b, off, e, hb, fun i x hx j v hv => ?_⟩
  rw [List.getElem?_take] at hx
  split at hx
  · exact hcl i x hx j v hv
  · cases hx

set_option maxHeartbeats 1000000 in
theorem read_take (n : Nat) (h0 : 0 < n) (hn : n ≤ 100) (w : World) (b4 b5 : Nat) (p : Pst) (h : RP w b4 b5 p) :
    Calls Try.prog 29 #[.int .i64 n, .pointer (some ⟨b4, 0, none⟩), .pointer (some ⟨b5, 0, none⟩)] w fun e w' => e = .returned (.string (str (tk n p).1)) ∧ RP w' b4 b5 (tk n p).2 ∧ But b4 b5 w w' := by
  obtain ⟨⟨hlt, hlt2⟩, hbad, hfb, ⟨A, m, c, hrest, hr, hmc, hc⟩, hfr⟩ := h
  have hne : b4 ≠ b5 := by omega
  have hne' : b5 ≠ b4 := by omega
  have hl := Lib.hid hr.1
  have hm := hr.2.1
  by_cases hnm : n ≤ m
  · have ht : Hid (tk n p = (p.2.take n, (p.1, p.2.drop n))) := by unfold Hid tk; rw [if_pos (by rw [hl.out]; exact hnm)]
    have g1 : decide (m < n) = false := by simp; omega
    have g2 : decide ((m : Int) < (n : Int)) = false := by simp; omega
    have hi1 : (n : Int) ≤ (c : Int) := by omega
    have hi2 : (n : Int) ≤ (m : Int) := by omega
    have hi3 : (m : Int) ≤ (c : Int) := by omega
    obtain ⟨b, off, rfl, hb, _⟩ := hr.2.2 (by omega)
    have hcv : ∀ v : Value, (convert 56 9 (.slice (some ⟨b, off, none⟩) n n)).run Try.prog (w.setCell ⟨b4, 0, none⟩ v) = .ok (.string (str (p.2.take n))) (w.setCell ⟨b4, 0, none⟩ v) := fun v =>
      run_bytes_str (B := b4) ((hr.head hnm).keep fun q hq => by rw [World.cell?_setCell_other]; rintro rfl; simp at hq)
    have hcut := Lib.hid (BytesAt.cut hr hnm hmc)
    replace hr := Lib.hid hr
    go_enter Try.func29, Try.ntmps29
    go_wp2_with fail
    case inl h =>
      subst h
      go_ret
      refine ⟨by rw [ht.out]; rfl, ?_, (But.refl _ _ _).set4 _⟩
      rw [ht.out]
      have hcut := hcut.out
      rw [if_pos rfl] at hcut
      exact ⟨⟨hlt, by simp; omega⟩, by go_simp, by go_simp, ⟨some ⟨b, off, none⟩, m - c, 0, by go_simp, hcut.keep fun q hq => by rw [World.cell?_setCell_other]; rintro rfl; simp at hq, by omega, by omega⟩, by go_simp⟩
    case inr h =>
      go_ret
      refine ⟨by rw [ht.out]; rfl, ?_, (But.refl _ _ _).set4 _⟩
      rw [ht.out]
      have hcut := hcut.out
      rw [if_neg h] at hcut
      simp only [Option.map_some, Addr.add_lit] at hcut
      exact ⟨⟨hlt, by simp; omega⟩, by go_simp, by go_simp, ⟨some ⟨b, off + n, none⟩, m - n, c - n, by go_simp, hcut.keep fun q hq => by rw [World.cell?_setCell_other]; rintro rfl; simp at hq, by omega, by omega⟩, by go_simp⟩
  · have ht : Hid (tk n p = ([], (true, []))) := by unfold Hid tk; rw [if_neg (by rw [hl.out]; exact hnm)]
    have g1 : decide (m < n) = true := by simp; omega
    have g2 : decide ((m : Int) < (n : Int)) = true := by simp; omega
    go_enter Try.func29, Try.ntmps29
    go_wp2_with fail
    go_ret
    refine ⟨by rw [ht.out]; rfl, ?_, (But.refl _ _ _).set5 _ |>.set4 _⟩
    rw [ht.out]
    exact ⟨⟨hlt, by simp; omega⟩, by go_simp, by go_simp, ⟨none, 0, 0, by go_simp, RowAt.none_, by omega, by omega⟩, by go_simp⟩

theorem ofInt_wrap {n : Int} {m : Nat} (h : n = m) (hm : m < 18446744073709551616) : (BitVec.ofInt 64 (wrap64 n)).toNat = m := by
  subst h
  rw [BitVec.toNat_ofInt]
  unfold wrap64
  omega
/-- A number so far, and one byte more: as the loop of get reckons it. -/
theorem or_step {t : List UInt8} {c : UInt8} (h : t.length ≤ 7) : bits .or .i64 (wrap64 (sval t * 256)) (wrap64 c.toNat) = sval (t ++ [c]) := by
  have hv := val_lt t
  have hv2 : 256 ^ t.length ≤ 256 ^ 7 := Nat.pow_le_pow_right (by omega) h
  have hc := c.toNat_lt
  have hs : sval t = val t := by unfold sval; rw [if_pos (by omega)]
  rw [hs]
  have ha := ofInt_wrap (n := (val t : Int) * 256) (m := val t * 256) (by omega) (by omega)
  have hb := ofInt_wrap (n := (c.toNat : Int)) (m := c.toNat) rfl (by omega)
  have hor : val t * 256 ||| c.toNat = val t * 256 + c.toNat := by rw [show val t * 256 = val t <<< 8 by rw [Nat.shiftLeft_eq], Nat.shiftLeft_add_eq_or_of_lt (by omega)]
  unfold bits
  show IntKind.i64.wrap ((BitVec.ofInt 64 (wrap64 ((val t : Int) * 256)) ||| BitVec.ofInt 64 (wrap64 (c.toNat : Int))).toNat : Int) = _
  rw [BitVec.toNat_or, ha, hb, hor]
  unfold sval
  rw [val_snoc]
  simp only [IntKind.wrap, IntKind.bits, IntKind.signed]
  simp
  split <;> split <;> omega

set_option maxHeartbeats 2000000 in
theorem read_get (m : Nat) (hm : m = 1 ∨ m = 2 ∨ m = 4 ∨ m = 8) (w : World) (b4 b5 b6 : Nat) (p : Pst) (h : RP w b4 b5 p) (h6 : b6 < w.heap.size ∧ b6 ≠ b4 ∧ b6 ≠ b5)
    (hf : w.cell? ⟨b6, 0, none⟩ = some (.func (.func 29) #[] #[.pointer (some ⟨b4, 0, none⟩), .pointer (some ⟨b5, 0, none⟩)])) :
    Calls Try.prog 30 #[.int .i64 m, .pointer (some ⟨b6, 0, none⟩)] w fun e w' => e = .returned (.int .i64 (gt m p).1) ∧ RP w' b4 b5 (gt m p).2 ∧ But b4 b5 w w' := by
  obtain ⟨h61, h62, h63⟩ := h6
  have ht := Lib.hid (read_take m (by omega) (by omega) w b4 b5 p h)
  replace h := Lib.hid h
  go_enter Try.func30, Try.ntmps30
  go_wp2_with fail
  refine ht.out.mono ?_
  rintro e w1 ⟨rfl, hr1, hb1⟩
  obtain ⟨l, hl⟩ : ∃ l, l = (tk m p).1 := ⟨_, rfl⟩
  rw [← hl]
  have hlm : l.length ≤ m := by rw [hl]; unfold tk; split <;> simp; omega
  have hsz : (str l).size = l.length := by simp [str]; rfl
  have hcv := Lib.run_convert_string_bytes (P := Try.prog) w1 9 56 5 (str l) Try.underlying9 Try.underlying56 Try.underlying5
  rw [hsz] at hcv
  have hrow := bytes_row w1 5 (str l) (by omega)
  rw [hsz, show bl (str l) = l by simp [bl, str]] at hrow
  replace hrow := Lib.hid hrow
  have hbb := below_bytes w1 5 (str l)
  have hz1 : (Lib.bytesWorld w1 5 (str l)).heap.size = w1.heap.size + 1 := Lib.bytesWorld_size _ _ _
  obtain ⟨W, hW⟩ : ∃ W, W = Lib.bytesWorld w1 5 (str l) := ⟨_, rfl⟩
  rw [← hW] at hcv hrow hbb hz1
  replace hW := Lib.hid hW
  replace hr1 := Lib.hid hr1
  replace hb1 := Lib.hid hb1
  replace hl := Lib.hid hl
  go_wp2_with fail
  go_loopw [4, 6, 12] (fun v _ i wr => ∃ k : Nat, k ≤ l.length ∧ i = .int .i64 k ∧ v = .int .i64 (sval (l.take k)) ∧ wr = W) (fun _ _ i _ => l.length - (intOf i).toNat)
  case atStart => exact ⟨0, Nat.zero_le _, rfl, rfl, rfl⟩
  case round =>
    obtain ⟨k, hk, rfl, rfl, rfl⟩ := hrel
    by_cases hlt : k < l.length
    · obtain ⟨b, off, e0, hb, hc⟩ := hrow.out.2.2 (by omega)
      obtain ⟨x, hx⟩ := getElem_some (l := l) (i := k) hlt
      have c0 := hc k x hx 0 _ rfl
      simp only [Option.some.injEq, Addr.mk.injEq] at e0
      obtain ⟨rfl, rfl, _⟩ := e0
      simp only [Nat.zero_add, Nat.mul_one, Nat.add_zero] at c0
      clear hc
      replace hx := Lib.hid hx
      have hi1 : (k : Int) < (l.length : Int) := by omega
      go_wp2_with fail
      have hst : bits .or .i64 (wrap64 (sval (l.take k) * 256)) (wrap64 x.toNat) = sval (l.take (k + 1)) := by
        rw [or_step (by simp; omega), List.take_add_one, hx.out]
        rfl
      rw [hst]
      exact ⟨⟨k + 1, by omega, by go_num, rfl, trivial⟩, by simp [intOf]; omega⟩
    · obtain rfl : k = l.length := by omega
      go_wp2_with fail
      go_ret
      have hfr := hr1.out.fr
      have hr := hr1.out
      obtain ⟨⟨r1, r2⟩, r3, r4, ⟨A, n, c, r5, r6, r7, r8⟩, r9⟩ := hr
      obtain ⟨hc1, hf1⟩ := bcell hbb
      refine ⟨by rw [List.take_length, hl.out]; rfl, ⟨⟨r1, by omega⟩, by rw [hc1 _ _ r2]; exact r3, by rw [hf1 _ _ r2]; exact r4, ⟨A, n, c, by rw [hc1 _ _ (by omega)]; exact r5, r6.keep (fun q hq => hbb.cell (by omega)), r7, r8⟩, by rw [hf1 _ _ (by omega)]; exact r9⟩, hb1.out.trans (But.of hbb)⟩
end Go.Proofs.Ytbfephekkfieaaa
