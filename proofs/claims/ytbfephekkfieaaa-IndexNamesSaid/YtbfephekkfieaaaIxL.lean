/-
  PLAIN LAW of IndexNames: full states, the nine places, the six bad states, the example.
-/
import Derived.Test.YtbfephekkfieaaaStepL
import Derived.Test.YtbfephekkfieaaaOfA
import Derived.Test.YtbfephekkfieaaaRowL
import Derived.Test.YtbfephekkfieaaaLetters
import Derived.Test.YtbfephekkfieaaaIdxPacks
import Derived.Test.YtbfephekkfieaaaDropA
import Derived.Test.YtbfephekkfieaaaWorksI
import Derived.Test.YtbfephekkfieaaaStA
import Derived.Test.YtbfephekkfieaaaKrip
namespace Go.Proofs.Ytbfephekkfieaaa
open Go.RowKit

theorem str_size' (l : List UInt8) : (str l).size = l.length := by show l.toArray.size = l.length; simp
theorem bl_str' (l : List UInt8) : bl (str l) = l := by simp [bl, str]
/-- The i-th chunk of a full state. -/
def ful (i : Nat) : ByteArray := str (UInt8.ofNat (i / 256) :: UInt8.ofNat (i % 256) :: List.replicate 30 97)
def fulP (i : Nat) : Place := ⟨ful i, 8, 1⟩
def fulCs (n : Nat) : List ByteArray := (List.range n).map ful
def fulPs (n : Nat) : List Place := (List.range n).map fulP
def fulS (n : Nat) : St := ⟨0, 0, 0, [], fulCs n, fulPs n⟩
theorem ful_size (i : Nat) : (ful i).size = 32 := by unfold ful; rw [str_size']; simp
theorem u8_lt {a b : Nat} (hb : b < 256) (h : a < b) : UInt8.ofNat a < UInt8.ofNat b := by
  rw [UInt8.lt_iff_toNat_lt]
  simp
  omega
theorem ful_lt {i j : Nat} (h : i < j) (hj : j < 65536) : sLt (ful i) (ful j) = true := by
  rw [sLt_iff]
  unfold ful
  rw [bl_str', bl_str', List.cons_lt_cons_iff]
  rcases Nat.lt_or_ge (i / 256) (j / 256) with h1 | h1
  · exact .inl (u8_lt (by omega) h1)
  · have e : i / 256 = j / 256 := by omega
    refine .inr ⟨by rw [e], ?_⟩
    rw [List.cons_lt_cons_iff]
    exact .inl (u8_lt (by omega) (by omega))
theorem ful_ne {i j : Nat} (h : i ≠ j) (hi : i < 65536) (hj : j < 65536) : ful i ≠ ful j := by
  rcases Nat.lt_or_gt_of_ne h with h | h
  · exact sLt_ne (ful_lt h hj)
  · exact fun e => sLt_ne (ful_lt h hi) e.symm
theorem ful_clash {i j : Nat} (h : i ≠ j) (hi : i < 65536) (hj : j < 65536) : clash (fulP i) (fulP j) = false := by
  unfold clash fulP
  simp [ful_ne h hi hj]
theorem fulCs_len (n : Nat) : (fulCs n).length = n := by simp [fulCs]
theorem fulPs_len (n : Nat) : (fulPs n).length = n := by simp [fulPs]
theorem fulP_may (i : Nat) : mayPlace (fulP i) = true := by unfold mayPlace fulP; simp [ful_size]
theorem ful_rise (n : Nat) (hn : n ≤ 65536) : RiseS (fulCs n) := by
  unfold fulCs RiseS
  rw [List.pairwise_map]
  refine List.Pairwise.imp_of_mem ?_ (List.pairwise_lt_range (n := n))
  intro a b ha hb hab
  exact ful_lt hab (by have := List.mem_range.1 hb; omega)
theorem ful_apart (n : Nat) (hn : n ≤ 65536) : apartB (fulPs n) = true := by
  rw [apartB_iff]
  unfold fulPs
  rw [List.pairwise_map]
  refine List.Pairwise.imp_of_mem ?_ (List.pairwise_lt_range (n := n))
  intro a b ha hb hab
  have := List.mem_range.1 hb
  exact ful_clash (by omega) (by omega) (by omega)
theorem ful_may (n : Nat) (hn : n ≤ 400) : mayIdx (fulCs n) (fulPs n) = true :=
  mayIdx_of (by rw [fulCs_len, fulPs_len]) (by rw [fulCs_len]; exact hn) (fun c hc => by obtain ⟨i, _, rfl⟩ := List.mem_map.1 hc; exact ful_size i) (fun p hp => by obtain ⟨i, _, rfl⟩ := List.mem_map.1 hp; exact fulP_may i) (ful_rise n (by omega)) (ful_apart n (by omega))
theorem ful_401 : mayIdx (fulCs 401) (fulPs 401) = false := by
  unfold mayIdx
  rw [fulCs_len]
  simp
abbrev kA : ByteArray := letterRoot 97
abbrev kB : ByteArray := letterRoot 98
abbrev kC : ByteArray := letterRoot 99
abbrev kP : ByteArray := letterRoot 112
abbrev kQ : ByteArray := letterRoot 113
abbrev kR : ByteArray := letterRoot 114
theorem root_size (c : UInt8) : (letterRoot c).size = 32 := by unfold letterRoot; rw [str_size']; simp
theorem kC_ful {n : Nat} (hn : n ≤ 400) : kC ∉ fulCs n := by
  intro h
  obtain ⟨i, hi, e⟩ := List.mem_map.1 h
  have hi' := List.mem_range.1 hi
  have h1 := congrArg bl e
  unfold ful kC letterRoot at h1
  rw [bl_str', bl_str'] at h1
  have h2 : UInt8.ofNat (i / 256) = 99 := by
    have := congrArg List.head? h1
    simpa using this
  have h3 := congrArg UInt8.toNat h2
  simp at h3
  omega
def adQ : Place := ⟨kQ, 0, 1⟩
def adR : Place := ⟨kR, 0, 1⟩
theorem adQ_new : mayNew [kC] [adQ] = true := by
  unfold mayNew adQ mayPlace
  simp [root_size]
theorem ful_add400 : addIdx (fulS 400) [kC] [adQ] = (stNone, 40) := by
  have hm := ful_may 400 (by omega)
  have hc := kC_ful (n := 400) (by omega)
  unfold addIdx fulS
  rw [if_pos hm, if_pos ⟨rfl, by simp, adQ_new⟩]
  unfold addGo
  rw [if_neg hc]
  unfold addGo
  dsimp only
  rw [if_pos]
  unfold insAt
  have := fulCs_len 400
  simp only [List.length_append, List.length_cons, List.length_take, List.length_drop]
  omega
theorem ful_add399 : ∃ s, addIdx (fulS 399) [kC] [adQ] = (s, 0) := by
  have hm := ful_may 399 (by omega)
  have hc := kC_ful (n := 399) (by omega)
  have hl := fulCs_len 399
  have hq : ∀ p ∈ fulPs 399, clash adQ p = false := fun p hp => by
    obtain ⟨i, hi, rfl⟩ := List.mem_map.1 hp
    have hi' := List.mem_range.1 hi
    have hne : kQ ≠ ful i := fun e => by
      have h1 := congrArg bl e
      unfold ful kQ letterRoot at h1
      rw [bl_str', bl_str'] at h1
      have h2 : 113 = UInt8.ofNat (i / 256) := by
        have := congrArg List.head? h1
        simpa using this
      have h3 := congrArg UInt8.toNat h2
      simp at h3
      omega
    unfold clash adQ fulP
    simp [hne]
  refine ⟨⟨0, 0, 0, [], insAt (lowB (fulCs 399) kC) kC (fulCs 399), insAt (lowB (fulCs 399) kC) adQ (fulPs 399)⟩, ?_⟩
  unfold addIdx fulS
  rw [if_pos hm, if_pos ⟨rfl, by simp, adQ_new⟩]
  unfold addGo
  rw [if_neg hc]
  unfold addGo
  dsimp only
  rw [if_neg, if_pos]
  · rw [apartB_iff]
    have hp := (apartB_iff _).1 (ful_apart 399 (by omega))
    unfold insAt
    rw [← List.take_append_drop (lowB (fulCs 399) kC) (fulPs 399)] at hp
    obtain ⟨h1, h2, h3⟩ := List.pairwise_append.1 hp
    refine List.pairwise_append.2 ⟨h1, List.pairwise_cons.2 ⟨fun p hp => hq p (List.mem_of_mem_drop hp), h2⟩, fun a ha b hb => ?_⟩
    rcases List.mem_cons.1 hb with rfl | hb
    · rw [clash_symm]; exact hq a (List.mem_of_mem_take ha)
    · exact h3 a ha b hb
  · unfold insAt
    simp only [List.length_append, List.length_cons, List.length_take, List.length_drop]
    omega
theorem ful_packs3 : packsRes (fulS 3) = (fulCs 3, 0) := by
  unfold packsRes
  rw [if_pos (show mayIdx (fulS 3).cs (fulS 3).ps = true from ful_may 3 (by omega))]
  have : setS ((fulPs 3).map Place.pack) = fulCs 3 := by
    refine (setS_unique (ful_rise 3 (by omega)) fun z => ?_).symm
    simp [fulCs, fulPs, fulP]
  show (setS ((fulPs 3).map Place.pack), (0 : Int)) = _
  rw [this]
/-- The nine places, and whether they may be. -/
def ixT : List (Place × Bool) := [(⟨kP, 0, 1⟩, true), (⟨kP, 16384, 16384⟩, true), (⟨kP, 32767, 1⟩, true), (⟨kP, 32768, 1⟩, false), (⟨kP, 32767, 2⟩, false), (⟨kP, -1, 1⟩, false), (⟨kP, 0, 0⟩, false), (⟨kP, 0, 16385⟩, false), (⟨kP ++ ⟨#[112]⟩, 0, 1⟩, false)]
theorem ixT_may {x : Place × Bool} (h : x ∈ ixT) : mayPlace x.1 = x.2 := by
  unfold ixT at h
  simp only [List.mem_cons, List.not_mem_nil, or_false] at h
  rcases h with rfl | rfl | rfl | rfl | rfl | rfl | rfl | rfl | rfl <;> (unfold mayPlace; simp [root_size]) <;> decide
theorem ixT_ok {x : Place × Bool} (h : x ∈ ixT) : PlaceOk x.1 := by
  unfold ixT at h
  simp only [List.mem_cons, List.not_mem_nil, or_false] at h
  rcases h with rfl | rfl | rfl | rfl | rfl | rfl | rfl | rfl | rfl <;> (unfold PlaceOk; dsimp only; omega)
theorem one_may (p : Place) : mayIdx [kA] [p] = mayPlace p := by
  unfold mayIdx
  simp [chk, prevOk, root_size, apartB]
theorem one_add (p : Place) : addIdx stNone [kA] [p] = if mayPlace p = true then (⟨0, 0, 0, [], [kA], [p]⟩, 0) else (stNone, 1) := by
  have h0 : mayIdx stNone.cs stNone.ps = true := by simp [stNone, mayIdx, chk, apartB]
  unfold addIdx
  rw [if_pos h0]
  by_cases h : mayPlace p = true
  · rw [if_pos h, if_pos ⟨rfl, by simp, by unfold mayNew; simp [root_size, h]⟩]
    simp [stNone, addGo, insAt, lowB, apartB]
  · rw [if_neg h, if_neg]
    rintro ⟨_, _, h3⟩
    unfold mayNew at h3
    simp at h3
    exact h h3.2
end Go.Proofs.Ytbfephekkfieaaa
/-
  full of chapter 17: a state of so many chunks.
-/
namespace Go.Proofs.Ytbfephekkfieaaa
open Go.RowKit
attribute [local go_sem ↓] Go.wp_at_zero Go.wp_at_succ

theorem below_bytesI (w : World) (e : TypeId) (s : ByteArray) : Below w.heap.size w (Lib.bytesWorld w e s) :=
  ⟨rfl, rfl, rfl, by rw [Lib.bytesWorld_size]; omega, fun i hi => Lib.bytesWorld_at_old w e s i hi⟩
theorem bytes_rowI (w : World) (e : TypeId) (s : ByteArray) (h : s.size ≤ 9223372036854775807) : BytesAt (Lib.bytesWorld w e s) (w.heap.size + 1) (some ⟨w.heap.size, 0, none⟩) s.size (bl s) := by
  refine ⟨Array.length_toList, h, fun _ => ⟨_, _, rfl, by omega, fun i x hx j v hv => ?_⟩⟩
  have hi : i < s.size := by
    have := (List.getElem?_eq_some_iff.1 hx).1
    rw [show (bl s).length = s.size from Array.length_toList] at this
    exact this
  match j, hv with
  | 0, hv =>
    simp [byteCell] at hv
    subst hv
    have := Lib.bytesWorld_cell w e s i hi
    rw [List.getD_eq_getElem?_getD, hx] at this
    simpa using this
  | j + 1, hv => simp [byteCell] at hv
theorem ofNat_u8I {c : Nat} (h1 : c ≤ 255) : Value.int .u8 (c : Int) = .int .u8 ((UInt8.ofNat c).toNat : Nat) := by
  have : (UInt8.ofNat c).toNat = c := by
    rw [UInt8.toNat_ofNat']
    omega
  rw [this]
theorem BytesAt.setI {w : World} {B b off n i : Nat} {l : List UInt8} (h : BytesAt w B (some ⟨b, off, none⟩) n l) (hi : i < n) {c : Nat} (h1 : c ≤ 255) :
    BytesAt (w.setCell ⟨b, off + i, none⟩ (.int .u8 (c : Int))) B (some ⟨b, off, none⟩) n (l.set i (UInt8.ofNat c)) := by
  obtain ⟨hl, h9, hc⟩ := h
  refine ⟨by rw [List.length_set]; exact hl, h9, fun hn => ?_⟩
  obtain ⟨b', off', e, hb, hc⟩ := hc hn
  cases e
  refine ⟨b, off, rfl, hb, fun k x hx j v hv => ?_⟩
  obtain rfl : j = 0 := by have := (List.getElem?_eq_some_iff.1 hv).1; simpa [byteCell] using this
  simp [byteCell] at hv
  subst hv
  by_cases hk : k = i
  · subst hk
    have hkl : k < l.length := by omega
    rw [List.getElem?_set_self hkl] at hx
    obtain rfl := Option.some.inj hx
    have hold := hc k l[k] (List.getElem?_eq_getElem hkl) 0 _ rfl
    have e1 : (⟨b, off + k * 1 + 0, none⟩ : Addr) = ⟨b, off + k, none⟩ := by simp
    rw [e1] at hold ⊢
    rw [World.cell?_setCell_same' _ _ _ (by rw [hold]; rfl), ofNat_u8I h1]
  · rw [List.getElem?_set_ne (fun e => hk e.symm)] at hx
    rw [World.cell?_setCell_other]
    · exact hc k x hx 0 _ rfl
    · intro e
      simp at e <;> omega
theorem RowAt.blockI {α : Type} {k : Nat} {enc : α → List Value} {w w' : World} {B b off n : Nat} {l : List α} (h : RowAt k enc w B (some ⟨b, off, none⟩) n l) (hb : w'.heap[b]? = w.heap[b]?) : RowAt k enc w' B (some ⟨b, off, none⟩) n l := by
  obtain ⟨hl, h9, hc⟩ := h
  refine ⟨hl, h9, fun hn => ?_⟩
  obtain ⟨b', off', e, hb', hc⟩ := hc hn
  cases e
  exact ⟨b, off, rfl, hb', fun i x hx j v hv => by rw [World.cell?_of_block (a := ⟨b, off + i * k + j, none⟩) hb]; exact hc i x hx j v hv⟩
theorem ful_str (k : Nat) (hk : k < 65536) : str (((bl (letterRoot 97)).set 0 (UInt8.ofNat (k / 256))).set 1 (UInt8.ofNat (k % 256))) = ful k := by
  unfold ful letterRoot
  rw [bl_str']
  rfl
theorem fulCs_succ (k : Nat) : fulCs (k + 1) = fulCs k ++ [ful k] := by simp [fulCs, List.range_succ]
theorem fulPs_succ (k : Nat) : fulPs (k + 1) = fulPs k ++ [fulP k] := by simp [fulPs, List.range_succ]
theorem fulPs_ok (n : Nat) : ∀ p ∈ fulPs n, PlaceOk p := by
  intro p hp
  obtain ⟨i, _, rfl⟩ := List.mem_map.1 hp
  unfold PlaceOk fulP
  dsimp only
  omega

set_option maxHeartbeats 4000000 in
set_option maxRecDepth 100000 in
theorem law17_full (n : Nat) (hn : n ≤ 1000) (w : World) :
    Calls Try.prog 18 #[.int .i64 n] w fun e w' => ∃ A c A' c', e = .returned (.agg #[.int .i64 0, .int .i64 0, .int .i64 0, .slice none 0 0, .slice A n c, .slice A' n c']) ∧ StAt w' w'.heap.size ⟨none, 0, 0, A, n, c, A', n, c'⟩ (fulS n) ∧ Below w.heap.size w w' := by
  obtain ⟨w0, hw0⟩ : ∃ w0, w0 = w.alloc (.cells #[.int .i64 0, .int .i64 0, .int .i64 0, .slice none 0 0, .slice none 0 0, .slice none 0 0] 29) := ⟨_, rfl⟩
  have e0 : w0.heap.size = w.heap.size + 1 := by rw [hw0]; simp
  have hds := DS.start w0 0 0 0 (.slice none 0 0)
  rw [e0] at hds
  have hres : w0.heap[w.heap.size]? = some (.cells #[.int .i64 0, .int .i64 0, .int .i64 0, .slice none 0 0, .slice none 0 0, .slice none 0 0] 29) := by rw [hw0]; exact heap_alloc_new _ _
  have hb0 : Below w.heap.size w w0 := by rw [hw0]; exact (Below.refl _ _).alloc (Nat.le_refl _) _
  go_enter Try.func18, Try.ntmps18
  go_wp2_with fail
  rw [← hw0]
  replace hw0 := Lib.hid hw0
  go_loopw [4, 5] (fun i _ wr => ∃ (k : Nat) (V2 V3 : Value), k ≤ n ∧ i = .int .i64 k ∧ Hid (DS w0 wr (w.heap.size + 1) (w.heap.size + 1 + 1) 0 0 0 (.slice none 0 0) V2 V3 V2 V3 (fulCs k) (fulPs k))) (fun i _ _ => n - (intOf i).toNat)
  case atStart => exact ⟨0, _, _, Nat.zero_le _, rfl, by simpa [fulCs, fulPs, Hid] using hds⟩
  clear hds
  obtain ⟨k, V2, V3, hk, rfl, hs⟩ := hrel
  obtain ⟨wq, rfl⟩ : ∃ x : World, x = wr := ⟨_, rfl⟩
  rcases Nat.lt_or_ge k n with hlt | hge
  case inl =>
    go_wp2_with fail
    refine (law17_d 97 _).mono ?_
    rintro e w1 ⟨rfl, hb1⟩
    have s1 := hs.out.to hb1
    have hcv := Lib.run_convert_string_bytes (P := Try.prog) w1 9 56 5 (letterRoot 97) Try.underlying9 Try.underlying56 Try.underlying5
    have hrow := bytes_rowI w1 5 (letterRoot 97) (by rw [root_size]; omega)
    have hbb := below_bytesI w1 5 (letterRoot 97)
    have hz1 : (Lib.bytesWorld w1 5 (letterRoot 97)).heap.size = w1.heap.size + 1 := Lib.bytesWorld_size _ _ _
    have hfz : ∀ o, o < 32 → (Lib.bytesWorld w1 5 (letterRoot 97)).frozen? ⟨w1.heap.size, o, none⟩ = false := fun o ho => by
      simp only [World.frozen?, Lib.bytesWorld_at_new]
      simp [Lib.bytesCells, root_size]
      omega
    obtain ⟨cp, hcp⟩ : ∃ cp, cp = grownCap w1 (letterRoot 97).size 0 5 := ⟨_, rfl⟩
    rw [← hcp] at hcv
    rw [root_size] at hcv hrow
    replace hcp := Lib.hid hcp
    generalize Lib.bytesWorld w1 5 (letterRoot 97) = w2 at hcv hrow hbb hz1 hfz
    go_upto_region 6 with fail
    obtain ⟨x0, hx0⟩ : ∃ x, (bl (letterRoot 97))[0]? = some x := getElem_some (by rw [hrow.1]; omega)
    obtain ⟨x1, hx1⟩ : ∃ x, (bl (letterRoot 97))[1]? = some x := getElem_some (by rw [hrow.1]; omega)
    have q0 : w2.cell? ⟨w1.heap.size, 0, none⟩ = some (.int .u8 x0.toNat) := by
      obtain ⟨b', o', e, _, hc⟩ := hrow.2.2 (by omega)
      cases e
      exact hc 0 x0 hx0 0 _ rfl
    have f0 := hfz 0 (by omega)
    have hk9 : k ≤ 1000 := by omega
    replace hx0 := Lib.hid hx0
    replace hx1 := Lib.hid hx1
    replace hrow := Lib.hid hrow
    replace hcv := Lib.hid hcv
    replace hz1 := Lib.hid hz1
    go_upto_region 7 with fail
    have e7 : ((k : Int) / 256) = ((k / 256 : Nat) : Int) := by omega
    rw [e7]
    have hr3 : BytesAt (w2.setCell ⟨w1.heap.size, 0, none⟩ (.int .u8 ((k / 256 : Nat) : Int))) (w1.heap.size + 1) (some ⟨w1.heap.size, 0, none⟩) 32 ((bl (letterRoot 97)).set 0 (UInt8.ofNat (k / 256))) := BytesAt.setI (off := 0) (i := 0) hrow.out (by omega) (by omega)
    have hb3 : Below w1.heap.size w1 (w2.setCell ⟨w1.heap.size, 0, none⟩ (.int .u8 ((k / 256 : Nat) : Int))) := hbb.setCell (p := ⟨w1.heap.size, 0, none⟩) (Nat.le_refl _) _
    have f1 : (w2.setCell ⟨w1.heap.size, 0, none⟩ (.int .u8 ((k / 256 : Nat) : Int))).frozen? ⟨w1.heap.size, 1, none⟩ = false := by rw [World.frozen?_setCell]; exact hfz 1 (by omega)
    generalize (w2.setCell ⟨w1.heap.size, 0, none⟩ (.int .u8 ((k / 256 : Nat) : Int))) = w3 at hr3 hb3 f1 ⊢
    clear e7 q0 f0 hfz hrow hcv hz1 hbb hx0 hx1
    obtain ⟨y1, hy1⟩ : ∃ x, ((bl (letterRoot 97)).set 0 (UInt8.ofNat (k / 256)))[1]? = some x := getElem_some (by rw [hr3.1]; omega)
    have q1 : w3.cell? ⟨w1.heap.size, 1, none⟩ = some (.int .u8 y1.toNat) := by
      obtain ⟨b', o', e, _, hc⟩ := hr3.2.2 (by omega)
      cases e
      exact hc 1 y1 hy1 0 _ rfl
    replace hy1 := Lib.hid hy1
    replace hr3 := Lib.hid hr3
    go_upto_region 8 with fail
    have e7 : ((k : Int) % 256) = ((k % 256 : Nat) : Int) := by omega
    rw [e7]
    have hr4 : BytesAt (w3.setCell ⟨w1.heap.size, 1, none⟩ (.int .u8 ((k % 256 : Nat) : Int))) (w1.heap.size + 1) (some ⟨w1.heap.size, 0, none⟩) 32 (((bl (letterRoot 97)).set 0 (UInt8.ofNat (k / 256))).set 1 (UInt8.ofNat (k % 256))) := BytesAt.setI (off := 0) (i := 1) hr3.out (by omega) (by omega)
    have hb4 : Below w1.heap.size w1 (w3.setCell ⟨w1.heap.size, 1, none⟩ (.int .u8 ((k % 256 : Nat) : Int))) := hb3.setCell (p := ⟨w1.heap.size, 1, none⟩) (Nat.le_refl _) _
    generalize (w3.setCell ⟨w1.heap.size, 1, none⟩ (.int .u8 ((k % 256 : Nat) : Int))) = w4 at hr4 hb4 ⊢
    clear e7 q1 f1 hr3 hb3 hy1
    have s4 := s1.to hb4
    have hcs := run_bytes_str (c := cp) hr4
    rw [ful_str k (by omega)] at hcs
    obtain ⟨x0, x1, x2, x3, x4, x5⟩ := s4.bx.cells
    have fz4 := s4.bx.frozen 4
    have lb := s4.bx.lt
    have hl1 : w1.heap.size < w4.heap.size := by
      obtain ⟨b', o', e, hbx, hc⟩ := hr4.2.2 (by omega)
      cases e
      have := hc 0 _ (List.getElem?_eq_getElem (by rw [hr4.1]; omega)) 0 _ rfl
      exact World.block_lt_of_cell? w4 _ this
    have hlen : (fulCs k).length ≤ 1000 := by rw [fulCs_len]; omega
    have hz4 := s4.hs
    replace hr4 := Lib.hid hr4
    replace hlen := Lib.hid hlen
    go_upto_region 9 with (at_builtin; go_must (refine Elem.wpList_one strE rfl (.tmp 24) (.tmp 27) rfl (w.heap.size + 1 + 1) _ (fulCs k) rfl _ _ (ful k) rfl (s4.o4.alloc _) (fun j u hu => by rcases j with _ | j <;> simp [strE, strCell] at hu <;> subst hu <;> go_simp) (by have := hlen.out; omega) (by first | omega | (simp; try omega)) ?_); intro v5 w5 ho5 hg5 hat5; obtain ⟨A5, m5, c5, rfl⟩ : ∃ A m c, v5 = .slice A m c := (by obtain ⟨A, c, e⟩ := Owns.form ho5; exact ⟨A, _, c, e⟩); have s5 := DS.grow4 (s4.alloc _) ho5 hg5 hat5; have hg9 : (w4.alloc (.cells #[.string (ful k)] 9)).grownBy w5 V2.ownBlock := hg5; have x54 := s5.bx.cells.2.2.2.2.1; have fz5 := s5.bx.frozen 4; clear hg5 hat5 ho5)
    have hw5 : w5.heap[w1.heap.size]? = w4.heap[w1.heap.size]? := (hg9.block w1.heap.size (by simp; omega) (fun e => by have h2 := (s1.o4.within e.symm).2; omega)).trans (Go.Deep.blk_alloc_lt _ _ _ hl1)
    have s6 := s5.set4 (.slice A5 m5 c5)
    have hr6 : BytesAt (w5.setCell ⟨w.heap.size + 1, 4, none⟩ (.slice A5 m5 c5)) (w1.heap.size + 1) (some ⟨w1.heap.size, 0, none⟩) 32 (((bl (letterRoot 97)).set 0 (UInt8.ofNat (k / 256))).set 1 (UInt8.ofNat (k % 256))) :=
      RowAt.blockI hr4.out ((Go.Deep.blk_setCell_other _ _ _ _ (by have := s1.hs; show w1.heap.size ≠ w.heap.size + 1; omega)).trans hw5)
    have hbw : w1.heap.size < (w5.setCell ⟨w.heap.size + 1, 4, none⟩ (.slice A5 m5 c5)).heap.size := by have := hg9.size; simp at this; simp; omega
    generalize (w5.setCell ⟨w.heap.size + 1, 4, none⟩ (.slice A5 m5 c5)) = w6 at s6 hr6 hbw ⊢
    clear x54 fz5 hw5 hg9 s5 s4 hr4 hcs x0 x1 x2 x3 x4 x5 fz4 lb hz4 hb4 hl1
    have hcs := run_bytes_str (c := cp) hr6
    rw [ful_str k (by omega)] at hcs
    obtain ⟨x0, x1, x2, x3, x4, x5⟩ := s6.bx.cells
    have hz6 := s6.hs
    have hlenp : Hid ((fulPs k).length ≤ 1000) := by unfold Hid; rw [fulPs_len]; omega
    replace hr6 := Lib.hid hr6
    go_wp2_with (at_builtin; go_must (refine Elem.wpList_one placeE rfl (.tmp 31) (.tmp 35) rfl (w.heap.size + 1 + 1) _ (fulPs k) rfl _ _ (fulP k) rfl (s6.o5.alloc _) (fun j u hu => by rcases j with _ | _ | _ | j <;> simp [placeE, Place.cells, fulP] at hu <;> subst hu <;> go_simp) (by have := hlenp.out; omega) (by first | omega | (simp; try omega)) ?_); intro v7 w7 ho7 hg7 hat7; obtain ⟨A7, m7, c7, rfl⟩ : ∃ A m c, v7 = .slice A m c := (by obtain ⟨A, c, e⟩ := Owns.form ho7; exact ⟨A, _, c, e⟩); have s7 := DS.grow5 (s6.alloc _) ho7 hg7 hat7; have x75 := s7.bx.cells.2.2.2.2.2; have fz7 := s7.bx.frozen 5; clear hg7 hat7 ho7)
    have s8 := s7.set5 (.slice A7 m7 c7)
    rw [← fulCs_succ, ← fulPs_succ] at s8
    replace s8 := Lib.hid s8
    go_roundw
    case rel => exact ⟨k + 1, _, _, by omega, by go_num, s8⟩
    case measure => simp [intOf]; omega
  obtain rfl : k = n := by omega
  have s := hs.out
  obtain ⟨A2, m2, c2, rfl⟩ : ∃ A m c, V2 = .slice A m c := by obtain ⟨A, c, e⟩ := Owns.form s.o4; exact ⟨A, _, c, e⟩
  obtain ⟨A3, m3, c3, rfl⟩ : ∃ A m c, V3 = .slice A m c := by obtain ⟨A, c, e⟩ := Owns.form s.o5; exact ⟨A, _, c, e⟩
  have r2 := Owns.row (k := 1) (fun x => strE.len x) s.o4
  have r3 := Owns.row (k := 3) (fun x => placeE.len x) s.o5
  obtain rfl : m2 = k := by rw [← r2.1, fulCs_len]
  obtain rfl : m3 = m2 := by rw [← r3.1, fulPs_len]
  obtain ⟨x0, x1, x2, x3, x4, x5⟩ := s.bx.cells
  have hb9 : Below w.heap.size w wq := hb0.trans (s.below.mono (by omega))
  have hr9 : wq.heap[w.heap.size]? = some (.cells #[.int .i64 0, .int .i64 0, .int .i64 0, .slice none 0 0, .slice none 0 0, .slice none 0 0] 29) := (s.below.block _ (by omega)).trans hres
  have bz : BoxAt wq w.heap.size 0 0 0 (.slice none 0 0) (.slice none 0 0) (.slice none 0 0) := hr9
  obtain ⟨z0, z1, z2, z3, z4, z5⟩ := bz.cells
  have y0 := bz.frozen 0
  have y1 := bz.frozen 1
  have y2 := bz.frozen 2
  have y3 := bz.frozen 3
  have y4 := bz.frozen 4
  have y5 := bz.frozen 5
  have hW : BoxAt ((((((wq.setCell ⟨w.heap.size, 0, none⟩ (.int .i64 0)).setCell ⟨w.heap.size, 1, none⟩ (.int .i64 0)).setCell ⟨w.heap.size, 2, none⟩ (.int .i64 0)).setCell ⟨w.heap.size, 3, none⟩ (.slice none 0 0)).setCell ⟨w.heap.size, 4, none⟩ (.slice A2 m3 c2)).setCell ⟨w.heap.size, 5, none⟩ (.slice A3 m3 c3)) w.heap.size 0 0 0 (.slice none 0 0) (.slice A2 m3 c2) (.slice A3 m3 c3) :=
    (heap_setCell (heap_setCell (heap_setCell (heap_setCell (heap_setCell (heap_setCell hr9 _) _) _) _) _) _).trans rfl
  have hb10 : Below w.heap.size w ((((((wq.setCell ⟨w.heap.size, 0, none⟩ (.int .i64 0)).setCell ⟨w.heap.size, 1, none⟩ (.int .i64 0)).setCell ⟨w.heap.size, 2, none⟩ (.int .i64 0)).setCell ⟨w.heap.size, 3, none⟩ (.slice none 0 0)).setCell ⟨w.heap.size, 4, none⟩ (.slice A2 m3 c2)).setCell ⟨w.heap.size, 5, none⟩ (.slice A3 m3 c3)) :=
    (((((hb9.setCell (p := ⟨w.heap.size, 0, none⟩) (Nat.le_refl _) _).setCell (p := ⟨w.heap.size, 1, none⟩) (Nat.le_refl _) _).setCell (p := ⟨w.heap.size, 2, none⟩) (Nat.le_refl _) _).setCell (p := ⟨w.heap.size, 3, none⟩) (Nat.le_refl _) _).setCell (p := ⟨w.heap.size, 4, none⟩) (Nat.le_refl _) _).setCell (p := ⟨w.heap.size, 5, none⟩) (Nat.le_refl _) _
  have hlb : w.heap.size < w.heap.size + 1 + 1 := by omega
  have o4 := Owns.row (k := 1) (fun x => strE.len x) ((((((s.o4.setOther (b := w.heap.size) (o := 0) (.int .i64 0) hlb).setOther (b := w.heap.size) (o := 1) (.int .i64 0) hlb).setOther (b := w.heap.size) (o := 2) (.int .i64 0) hlb).setOther (b := w.heap.size) (o := 3) (.slice none 0 0) hlb).setOther (b := w.heap.size) (o := 4) (.slice A2 m3 c2) hlb).setOther (b := w.heap.size) (o := 5) (.slice A3 m3 c3) hlb)
  have o5 := Owns.row (k := 3) (fun x => placeE.len x) ((((((s.o5.setOther (b := w.heap.size) (o := 0) (.int .i64 0) hlb).setOther (b := w.heap.size) (o := 1) (.int .i64 0) hlb).setOther (b := w.heap.size) (o := 2) (.int .i64 0) hlb).setOther (b := w.heap.size) (o := 3) (.slice none 0 0) hlb).setOther (b := w.heap.size) (o := 4) (.slice A2 m3 c2) hlb).setOther (b := w.heap.size) (o := 5) (.slice A3 m3 c3) hlb)
  obtain ⟨t0, t1, t2, t3, t4, t5⟩ := hW.cells
  replace o4 := Lib.hid o4
  replace o5 := Lib.hid o5
  replace hb10 := Lib.hid hb10
  clear hW r2 r3 hr9 bz hs s
  go_wp2_with fail
  clear z0 z1 z2 z3 z4 z5 y0 y1 y2 y3 y4 y5
  exact bodyPost_ret (v := .agg #[.int .i64 0, .int .i64 0, .int .i64 0, .slice none 0 0, .slice A2 m3 c2, .slice A3 m3 c3]) (by simp [results, Try.results18, go_sem, t0, t1, t2, t3, t4, t5]) rfl
    ⟨A2, c2, A3, c3, rfl, ⟨RowAt.none_, o4.out, o5.out, fulPs_ok _⟩, hb10.out⟩
end Go.Proofs.Ytbfephekkfieaaa

/-
  A notebook of blocks behind a base (as in RnW): what they hold, call by call.
-/
namespace Go.Proofs.Ytbfephekkfieaaa
open Go.RowKit

theorem rowHeap {α : Type} {k : Nat} {enc : α → List Value} (hk : ∀ x, (enc x).length = k) {w : World} {q : Nat} {T : TypeId} {l : List α} (h : w.heap[q]? = some (.cells (l.flatMap enc).toArray T)) (hl : l.length ≤ 9223372036854775807) :
    RowAt k enc w w.heap.size (some ⟨q, 0, none⟩) l.length l := by
  have hq : q < w.heap.size := (Array.getElem?_eq_some_iff.1 h).1
  refine ⟨rfl, hl, fun _ => ⟨_, _, rfl, hq, fun i x hx j v hv => ?_⟩⟩
  rw [cell_of_row _ _ _ _ T (0, 0) h]
  have := flat_at hk l i x hx j v hv
  simpa [Nat.add_assoc] using this

/-- Behind a base: some blocks that hold what is told of them. -/
structure Nb (w wr : World) (l : List (Nat × Obj)) : Prop where
  bel : Below w.heap.size w wr
  at_ : ∀ p ∈ l, wr.heap[p.1]? = some p.2 ∧ w.heap.size ≤ p.1
section
variable {w wr w' : World} {l : List (Nat × Obj)} {q : Nat} {o : Obj} {cs : Array Value} {T : TypeId}
theorem Nb.lt (h : Nb w wr l) {p : Nat × Obj} (hp : p ∈ l) : p.1 < wr.heap.size := (Array.getElem?_eq_some_iff.1 (h.at_ p hp).1).1
theorem Nb.below (h : Nb w wr l) (hb : Below wr.heap.size wr w') : Nb w w' l := ⟨h.bel.trans (hb.mono h.bel.size), fun p hp => ⟨(hb.block _ (h.lt hp)).trans (h.at_ p hp).1, (h.at_ p hp).2⟩⟩
theorem Nb.start (h : Below w.heap.size w wr) : Nb w wr [] := ⟨h, by simp⟩
theorem Nb.alloc (h : Nb w wr l) (o : Obj) : Nb w (wr.alloc o) ((wr.heap.size, o) :: l) := by
  have hq := h.below ((Below.refl _ wr).alloc (Nat.le_refl _) o)
  refine ⟨hq.bel, fun p hp => ?_⟩
  rcases List.mem_cons.1 hp with rfl | hp
  · exact ⟨heap_alloc_new _ _, h.bel.size⟩
  · exact hq.at_ p hp
theorem Nb.sub {l' : List (Nat × Obj)} (h : Nb w wr l) (hs : ∀ p ∈ l', p ∈ l) : Nb w wr l' := ⟨h.bel, fun p hp => h.at_ p (hs p hp)⟩
theorem Nb.cons (h : Nb w wr l) (hq : wr.heap[q]? = some o) (hb : w.heap.size ≤ q) : Nb w wr ((q, o) :: l) := ⟨h.bel, fun p hp => by
  rcases List.mem_cons.1 hp with rfl | hp
  · exact ⟨hq, hb⟩
  · exact h.at_ p hp⟩
theorem Nb.set (h : Nb w wr ((q, .cells cs T) :: l)) (hne : ∀ p ∈ l, p.1 ≠ q) (k : Nat) (u : Value) : Nb w (wr.setCell ⟨q, k, none⟩ u) ((q, .cells (cs.setIfInBounds k u) T) :: l) := by
  have h0 := h.at_ (q, .cells cs T) (by simp)
  refine ⟨h.bel.setCell (p := ⟨q, k, none⟩) h0.2 _, fun p hp => ?_⟩
  rcases List.mem_cons.1 hp with rfl | hp
  · exact ⟨heap_setCell h0.1 u, h0.2⟩
  · exact ⟨(Go.Deep.blk_setCell_other _ _ _ _ (hne p hp)).trans (h.at_ p (List.mem_cons_of_mem _ hp)).1, (h.at_ p (List.mem_cons_of_mem _ hp)).2⟩
theorem Nb.stored {u : World} {O R : Obj} {r : Nat} (h : Nb w wr ((q, O) :: l)) (hlt : ∀ p ∈ l, p.1 < q) (hb : Below q wr u) (hv : u.heap[q]? = some (.cells cs T)) (hx : u.heap[r]? = some R) (hqr : q < r) (k : Nat) (v : Value) :
    Nb w (u.setCell ⟨q, k, none⟩ v) ((q, .cells (cs.setIfInBounds k v) T) :: (r, R) :: l) := by
  have h0 := h.at_ (q, O) (by simp)
  refine ⟨h.bel.trans ((hb.setCell (p := ⟨q, k, none⟩) (Nat.le_refl _) v).mono h0.2), fun p hp => ?_⟩
  rcases List.mem_cons.1 hp with rfl | hp
  · exact ⟨heap_setCell hv v, h0.2⟩
  rcases List.mem_cons.1 hp with rfl | hp
  · exact ⟨(Go.Deep.blk_setCell_other _ _ _ _ (by show r ≠ q; omega)).trans hx, by have := h0.2; dsimp only at this ⊢; omega⟩
  · have h1 := h.at_ p (List.mem_cons_of_mem _ hp)
    have h2 := hlt p hp
    exact ⟨(Go.Deep.blk_setCell_other _ _ _ _ (by show p.1 ≠ q; omega)).trans ((hb.block _ h2).trans h1.1), h1.2⟩
theorem Nb.swap {x y : Nat × Obj} (h : Nb w wr (x :: y :: l)) : Nb w wr (y :: x :: l) := ⟨h.bel, fun p hp => h.at_ p (by simp at hp ⊢; rcases hp with e | e | e <;> simp [e])⟩
theorem Nb.mem (h : Nb w wr l) {q : Nat} {o : Obj} (hm : (q, o) ∈ l) : wr.heap[q]? = some o := (h.at_ (q, o) hm).1
theorem Nb.head (h : Nb w wr ((q, o) :: l)) : wr.heap[q]? = some o := (h.at_ (q, o) (by simp)).1
end

theorem box_cells {w : World} {q : Nat} {v0 v1 v2 v3 v4 v5 : Value} {T : TypeId} (h : w.heap[q]? = some (.cells #[v0, v1, v2, v3, v4, v5] T)) : q < w.heap.size ∧ w.cell? ⟨q, 0, none⟩ = some v0 ∧ w.cell? ⟨q, 1, none⟩ = some v1 ∧ w.cell? ⟨q, 2, none⟩ = some v2 ∧ w.cell? ⟨q, 3, none⟩ = some v3 ∧ w.cell? ⟨q, 4, none⟩ = some v4 ∧ w.cell? ⟨q, 5, none⟩ = some v5 ∧ ∀ o, w.frozen? ⟨q, o, none⟩ = false :=
  ⟨(Array.getElem?_eq_some_iff.1 h).1, cell_of_row w q 0 _ _ _ h, cell_of_row w q 1 _ _ _ h, cell_of_row w q 2 _ _ _ h, cell_of_row w q 3 _ _ _ h, cell_of_row w q 4 _ _ _ h, cell_of_row w q 5 _ _ _ h, fun o => by unfold World.frozen?; simp [h]⟩


section
variable {w w0 : World} {q r B : Nat} {T : TypeId} {a0 a1 a2 a3 a4 a5 v0 v1 v2 v3 v4 v5 : Value}
/-- A box of six cells that is written over. -/
theorem heap6 (h : w.heap[q]? = some (.cells #[a0, a1, a2, a3, a4, a5] T)) : ((((((w.setCell ⟨q, 0, none⟩ v0).setCell ⟨q, 1, none⟩ v1).setCell ⟨q, 2, none⟩ v2).setCell ⟨q, 3, none⟩ v3).setCell ⟨q, 4, none⟩ v4).setCell ⟨q, 5, none⟩ v5).heap[q]? = some (.cells #[v0, v1, v2, v3, v4, v5] T) :=
  (heap_setCell (heap_setCell (heap_setCell (heap_setCell (heap_setCell (heap_setCell h _) _) _) _) _) _).trans rfl
theorem heap6_other (h : r ≠ q) : ((((((w.setCell ⟨q, 0, none⟩ v0).setCell ⟨q, 1, none⟩ v1).setCell ⟨q, 2, none⟩ v2).setCell ⟨q, 3, none⟩ v3).setCell ⟨q, 4, none⟩ v4).setCell ⟨q, 5, none⟩ v5).heap[r]? = w.heap[r]? :=
  (Go.Deep.blk_setCell_other _ _ _ _ h).trans ((Go.Deep.blk_setCell_other _ _ _ _ h).trans ((Go.Deep.blk_setCell_other _ _ _ _ h).trans ((Go.Deep.blk_setCell_other _ _ _ _ h).trans ((Go.Deep.blk_setCell_other _ _ _ _ h).trans (Go.Deep.blk_setCell_other _ _ _ _ h)))))
theorem below6 (h : Below B w0 w) (hq : B ≤ q) : Below B w0 ((((((w.setCell ⟨q, 0, none⟩ v0).setCell ⟨q, 1, none⟩ v1).setCell ⟨q, 2, none⟩ v2).setCell ⟨q, 3, none⟩ v3).setCell ⟨q, 4, none⟩ v4).setCell ⟨q, 5, none⟩ v5) :=
  (((((h.setCell (p := ⟨q, 0, none⟩) hq _).setCell (p := ⟨q, 1, none⟩) hq _).setCell (p := ⟨q, 2, none⟩) hq _).setCell (p := ⟨q, 3, none⟩) hq _).setCell (p := ⟨q, 4, none⟩) hq _).setCell (p := ⟨q, 5, none⟩) hq _
end

end Go.Proofs.Ytbfephekkfieaaa

/-
  PLAIN LAW of IndexNames: the six bad states and the example of two chunks.
-/
namespace Go.Proofs.Ytbfephekkfieaaa
open Go.RowKit

def ixPs : List Place := [⟨kP, 5, 5⟩, ⟨kP, 0, 5⟩]
def ixSn : List Snap := [⟨3, 0, ⟨#[]⟩⟩]
def ixTwo : St := ⟨1, 2, 7, ixSn, [kA, kB], ixPs⟩
def ixOne : St := ⟨1, 2, 7, ixSn, [kB], [⟨kP, 0, 5⟩]⟩
/-- The six states that may not be. -/
def ixBad : List St := [⟨0, 0, 0, [], [kA, kB], []⟩, ⟨0, 0, 0, [], [kB, kA], ixPs⟩, ⟨0, 0, 0, [], [kA, kA], ixPs⟩, ⟨0, 0, 0, [], [kA, kB], [⟨kP, 5, 5⟩, ⟨kP, 9, 5⟩]⟩, ⟨0, 0, 0, [], [⟨#[97]⟩], [⟨kP, 5, 5⟩]⟩, fulS 401]
theorem ixBad_may {s : St} (h : s ∈ ixBad) : mayIdx s.cs s.ps = false := by
  unfold ixBad at h
  simp only [List.mem_cons, List.not_mem_nil, or_false] at h
  rcases h with rfl | rfl | rfl | rfl | rfl | rfl
  · unfold mayIdx; simp
  · have : sLt kB kA = false := by decide +kernel
    unfold mayIdx ixPs
    simp [chk, prevOk, this]
  · have : sLt kA kA = false := by decide +kernel
    unfold mayIdx ixPs
    simp [chk, prevOk, this]
  · have : apartB [⟨kP, 5, 5⟩, ⟨kP, 9, 5⟩] = false := by decide +kernel
    unfold mayIdx
    simp [this]
  · unfold mayIdx
    simp [chk, prevOk, ByteArray.size]
  · exact ful_401
theorem ixTwo_may : mayIdx ixTwo.cs ixTwo.ps = true :=
  mayIdx_of rfl (by decide) (by decide +kernel) (by decide +kernel) (List.pairwise_cons.2 ⟨by intro x hx; simp at hx; subst hx; exact sLt_ab, List.pairwise_singleton _ _⟩) (by decide +kernel)
theorem ixNe : kA ≠ kB := by decide +kernel
theorem ixC : kC ∉ [kA, kB] := by decide +kernel
theorem two_drop : dropIdx ixTwo [kA, kA] = (ixOne, 0) := by
  unfold dropIdx
  rw [if_pos ixTwo_may, if_pos (by simp [ixTwo])]
  simp [dropGo, ixTwo, ixOne, ixPs, ixNe.symm]
theorem two_drop_ac : dropIdx ixTwo [kA, kC] = (stNone, 5) := by
  unfold dropIdx
  rw [if_pos ixTwo_may, if_neg]
  have := ixC
  simp [ixTwo] at this ⊢
  exact this
theorem two_drop_nil : dropIdx ixTwo [] = (ixTwo, 0) := by
  unfold dropIdx
  rw [if_pos ixTwo_may, if_pos (by simp)]
  simp [dropGo, ixTwo, ixPs]
theorem two_add_nil : addIdx ixTwo [] [] = (stNone, 1) := by
  unfold addIdx
  rw [if_pos ixTwo_may, if_neg (by simp)]
theorem two_add_c : addIdx ixTwo [kC] [] = (stNone, 1) := by
  unfold addIdx
  rw [if_pos ixTwo_may, if_neg (by simp)]
theorem two_add_cc : addIdx ixTwo [kC, kC] [adQ, adR] = (stNone, 6) := by
  refine addIdx_none ixTwo_may rfl (by decide) (by decide +kernel) ?_
  rw [addGo, if_neg (by exact ixC), addGo, if_pos]
  unfold insAt
  simp
theorem two_add_short : addIdx ixTwo [⟨#[99]⟩] [adQ] = (stNone, 1) := by
  unfold addIdx
  rw [if_pos ixTwo_may, if_neg]
  rintro ⟨-, -, h⟩
  rw [show mayNew [⟨#[99]⟩] [adQ] = false by decide +kernel] at h
  cases h
theorem two_of_p {D : List ByteArray} {P : List Place} {z : Int} (h : OfRes ixTwo kP D P z) : D = [kB, kA] ∧ P = [⟨kP, 0, 5⟩, ⟨kP, 5, 5⟩] ∧ z = 0 := by
  have h1 := ofL_of (pack := kP) ixTwo_may (l' := [1, 0]) (by rw [show inPack ixTwo.ps kP ixTwo.ps.length = [0, 1] by decide +kernel]; exact List.Perm.swap _ _ _) (by decide +kernel)
  exact h.unique (.inr ⟨ixTwo_may, _, h1, rfl, rfl, .inr ⟨by simp, rfl⟩⟩)
theorem two_of_q {D : List ByteArray} {P : List Place} {z : Int} (h : OfRes ixTwo kQ D P z) : z = 5 :=
  ofRes_out ixTwo_may h (by decide +kernel)
end Go.Proofs.Ytbfephekkfieaaa

/-
  IndexNames: what is called, of the six bad states, of the example of two chunks, and of full ones, with the answers written out.
-/
namespace Go.Proofs.Ytbfephekkfieaaa
open Go.RowKit

/-- A state's cells: six, flat. -/
def rsCells (x : Rws × St) : List Value := [.int .i64 x.2.k, .int .i64 x.2.n, .int .i64 x.2.next, .slice x.1.A1 x.1.n1 x.1.c1, .slice x.1.A2 x.1.n2 x.1.c2, .slice x.1.A3 x.1.n3 x.1.c3]
theorem RowAt.rs {w : World} {B n b off : Nat} {l : List (Rws × St)} (h : RowAt 6 rsCells w B (some ⟨b, off, none⟩) n l) {i : Nat} (hi : i < n) :
    ∃ x, l[i]? = some x ∧ ∀ W, Below B w W → b < B ∧ W.cell? ⟨b, off + i * 6, none⟩ = some (.int .i64 x.2.k) ∧ W.cell? ⟨b, off + i * 6 + 1, none⟩ = some (.int .i64 x.2.n) ∧ W.cell? ⟨b, off + i * 6 + 2, none⟩ = some (.int .i64 x.2.next) ∧ W.cell? ⟨b, off + i * 6 + 3, none⟩ = some (.slice x.1.A1 x.1.n1 x.1.c1) ∧ W.cell? ⟨b, off + i * 6 + 4, none⟩ = some (.slice x.1.A2 x.1.n2 x.1.c2) ∧ W.cell? ⟨b, off + i * 6 + 5, none⟩ = some (.slice x.1.A3 x.1.n3 x.1.c3) := by
  obtain ⟨hl, _, hc⟩ := h
  obtain ⟨b', off', e, hb, hc⟩ := hc (by omega)
  simp only [Option.some.injEq, Addr.mk.injEq] at e
  obtain ⟨rfl, rfl, _⟩ := e
  have hx : l[i]? = some (l[i]'(by omega)) := List.getElem?_eq_getElem (by omega)
  have hs : ∀ W, Below B w W → ∀ o, W.cell? ⟨b, o, none⟩ = w.cell? ⟨b, o, none⟩ := fun W hW o => hW.cell (p := ⟨b, o, none⟩) hb
  exact ⟨_, hx, fun W hW => ⟨hb, (hs W hW _).trans (hc i _ hx 0 _ rfl), (hs W hW _).trans (hc i _ hx 1 _ rfl), (hs W hW _).trans (hc i _ hx 2 _ rfl), (hs W hW _).trans (hc i _ hx 3 _ rfl), (hs W hW _).trans (hc i _ hx 4 _ rfl), (hs W hW _).trans (hc i _ hx 5 _ rfl)⟩⟩
theorem below3 {w w0 : World} {q B : Nat} {v0 v1 v2 : Value} (h : Below B w0 w) (hq : B ≤ q) : Below B w0 (((w.setCell ⟨q, 0, none⟩ v0).setCell ⟨q, 1, none⟩ v1).setCell ⟨q, 2, none⟩ v2) :=
  ((h.setCell (p := ⟨q, 0, none⟩) hq _).setCell (p := ⟨q, 1, none⟩) hq _).setCell (p := ⟨q, 2, none⟩) hq _
theorem Owns.six {α : Type} {k : Nat} {enc : α → List Value} {T T' : TypeId} {w : World} {base : Nat} {v : Value} {l : List α} {q : Nat} {cs : Array Value} {fz : Nat × Nat} {v0 v1 v2 v3 v4 v5 : Value} (h : Owns k enc T w base v l) (hb : w.heap[q]? = some (.cells cs T' fz)) (hT : T ≠ T') : Owns k enc T ((((((w.setCell ⟨q, 0, none⟩ v0).setCell ⟨q, 1, none⟩ v1).setCell ⟨q, 2, none⟩ v2).setCell ⟨q, 3, none⟩ v3).setCell ⟨q, 4, none⟩ v4).setCell ⟨q, 5, none⟩ v5) base v l :=
  ⟨h.1, h.2.imp id fun ⟨g, cap, cur, e, hg, hh, r⟩ => ⟨g, cap, cur, e, hg, (heap6_other (fun hgq => by rw [hgq, hb] at hh; simp at hh; exact hT hh.2.1.symm)).trans hh, r⟩⟩

abbrev ixO2 : Obj := .cells (([kA, kB] : List ByteArray).flatMap strCell).toArray 9
abbrev ixO3 : Obj := .cells (ixPs.flatMap Place.cells).toArray 35
abbrev ixO4 : Obj := .cells (ixSn.flatMap Snap.cells).toArray 33

section
variable {w : World} {gA gP gS b5 b11 b19 b21 q : Nat} {FA FB : Option Addr} {fc fd : Nat}
theorem ix_bad (hA : w.heap[gA]? = some ixO2) (hP : w.heap[gP]? = some ixO3) (h5 : w.heap[b5]? = some (.cells #[.string kB, .string kA] 9)) (h11 : w.heap[b11]? = some (.cells #[.string kA, .string kA] 9))
    (h19 : w.heap[b19]? = some (.cells #[.string kP, .int .i64 5, .int .i64 5, .string kP, .int .i64 9, .int .i64 5] 35)) (h21 : w.heap[b21]? = some (.cells #[.string ⟨#[97]⟩] 9)) (hF : StAt w w.heap.size ⟨none, 0, 0, FA, 401, fc, FB, 401, fd⟩ (fulS 401))
    (hq : w.heap[q]? = some (.cells #[.int .i64 0, .int .i64 0, .int .i64 0, .slice none 0 0, .slice (some ⟨gA, 0, none⟩) 2 2, .slice none 0 0, .int .i64 0, .int .i64 0, .int .i64 0, .slice none 0 0, .slice (some ⟨b5, 0, none⟩) 2 2, .slice (some ⟨gP, 0, none⟩) 2 2, .int .i64 0, .int .i64 0, .int .i64 0, .slice none 0 0, .slice (some ⟨b11, 0, none⟩) 2 2, .slice (some ⟨gP, 0, none⟩) 2 2, .int .i64 0, .int .i64 0, .int .i64 0, .slice none 0 0, .slice (some ⟨gA, 0, none⟩) 2 2, .slice (some ⟨b19, 0, none⟩) 2 2, .int .i64 0, .int .i64 0, .int .i64 0, .slice none 0 0, .slice (some ⟨b21, 0, none⟩) 1 1, .slice (some ⟨gP, 0, none⟩) 1 2, .int .i64 0, .int .i64 0, .int .i64 0, .slice none 0 0, .slice FA 401 fc, .slice FB 401 fd] 29)) :
    ∃ L : List (Rws × St), RowAt 6 rsCells w w.heap.size (some ⟨q, 0, none⟩) 6 L ∧ ∀ x ∈ L, StAt w w.heap.size x.1 x.2 ∧ mayIdx x.2.cs x.2.ps = false := by
  have rA : StrsAt w w.heap.size (some ⟨gA, 0, none⟩) 2 [kA, kB] := rowHeap (k := 1) (enc := strCell) (l := [kA, kB]) (fun _ => rfl) hA (by decide)
  have rP : PlacesAt w w.heap.size (some ⟨gP, 0, none⟩) 2 ixPs := rowHeap (k := 3) (enc := Place.cells) (l := ixPs) (fun _ => rfl) hP (by decide)
  have rP1 : PlacesAt w w.heap.size (some ⟨gP, 0, none⟩) 1 [⟨kP, 5, 5⟩] := ⟨rfl, by omega, fun _ => by
    obtain ⟨b, off, e, hb, hc⟩ := rP.2.2 (by omega)
    refine ⟨b, off, e, hb, fun i x hx => ?_⟩
    rcases i with _ | i
    · simp at hx
      subst hx
      exact hc 0 _ rfl
    · simp at hx⟩
  have r5 : StrsAt w w.heap.size (some ⟨b5, 0, none⟩) 2 [kB, kA] := rowHeap (k := 1) (enc := strCell) (l := [kB, kA]) (fun _ => rfl) h5 (by decide)
  have r11 : StrsAt w w.heap.size (some ⟨b11, 0, none⟩) 2 [kA, kA] := rowHeap (k := 1) (enc := strCell) (l := [kA, kA]) (fun _ => rfl) h11 (by decide)
  have r19 : PlacesAt w w.heap.size (some ⟨b19, 0, none⟩) 2 [⟨kP, 5, 5⟩, ⟨kP, 9, 5⟩] := rowHeap (k := 3) (enc := Place.cells) (l := [⟨kP, 5, 5⟩, ⟨kP, 9, 5⟩]) (fun _ => rfl) h19 (by decide)
  have r21 : StrsAt w w.heap.size (some ⟨b21, 0, none⟩) 1 [⟨#[97]⟩] := rowHeap (k := 1) (enc := strCell) (l := [⟨#[97]⟩]) (fun _ => rfl) h21 (by decide)
  have ok2 : ∀ p ∈ ixPs, PlaceOk p := by intro p hp; simp [ixPs] at hp; rcases hp with rfl | rfl <;> (unfold PlaceOk; decide)
  have ok3 : ∀ p ∈ [(⟨kP, 5, 5⟩ : Place), ⟨kP, 9, 5⟩], PlaceOk p := by intro p hp; simp at hp; rcases hp with rfl | rfl <;> (unfold PlaceOk; decide)
  have ok1 : ∀ p ∈ [(⟨kP, 5, 5⟩ : Place)], PlaceOk p := by intro p hp; simp at hp; subst hp; unfold PlaceOk; decide
  refine ⟨[(⟨none, 0, 0, some ⟨gA, 0, none⟩, 2, 2, none, 0, 0⟩, ⟨0, 0, 0, [], [kA, kB], []⟩), (⟨none, 0, 0, some ⟨b5, 0, none⟩, 2, 2, some ⟨gP, 0, none⟩, 2, 2⟩, ⟨0, 0, 0, [], [kB, kA], ixPs⟩), (⟨none, 0, 0, some ⟨b11, 0, none⟩, 2, 2, some ⟨gP, 0, none⟩, 2, 2⟩, ⟨0, 0, 0, [], [kA, kA], ixPs⟩),
    (⟨none, 0, 0, some ⟨gA, 0, none⟩, 2, 2, some ⟨b19, 0, none⟩, 2, 2⟩, ⟨0, 0, 0, [], [kA, kB], [⟨kP, 5, 5⟩, ⟨kP, 9, 5⟩]⟩), (⟨none, 0, 0, some ⟨b21, 0, none⟩, 1, 1, some ⟨gP, 0, none⟩, 1, 2⟩, ⟨0, 0, 0, [], [⟨#[97]⟩], [⟨kP, 5, 5⟩]⟩), (⟨none, 0, 0, FA, 401, fc, FB, 401, fd⟩, fulS 401)], ?_, ?_⟩
  · refine rowHeap (k := 6) (enc := rsCells) (fun _ => rfl) (T := 29) ?_ (by simp)
    rw [hq]
    simp only [List.flatMap_cons, List.flatMap_nil, rsCells, List.cons_append, List.nil_append, List.append_nil]
    rfl
  · intro x hx
    simp only [List.mem_cons, List.not_mem_nil, or_false] at hx
    rcases hx with rfl | rfl | rfl | rfl | rfl | rfl
    · exact ⟨⟨RowAt.none_, rA, RowAt.none_, fun p hp => absurd hp List.not_mem_nil⟩, ixBad_may (s := ⟨0, 0, 0, [], [kA, kB], []⟩) (by simp [ixBad])⟩
    · exact ⟨⟨RowAt.none_, r5, rP, ok2⟩, ixBad_may (s := ⟨0, 0, 0, [], [kB, kA], ixPs⟩) (by simp [ixBad])⟩
    · exact ⟨⟨RowAt.none_, r11, rP, ok2⟩, ixBad_may (s := ⟨0, 0, 0, [], [kA, kA], ixPs⟩) (by simp [ixBad])⟩
    · exact ⟨⟨RowAt.none_, rA, r19, ok3⟩, ixBad_may (s := ⟨0, 0, 0, [], [kA, kB], [⟨kP, 5, 5⟩, ⟨kP, 9, 5⟩]⟩) (by simp [ixBad])⟩
    · exact ⟨⟨RowAt.none_, r21, rP1, ok1⟩, ixBad_may (s := ⟨0, 0, 0, [], [⟨#[97]⟩], [⟨kP, 5, 5⟩]⟩) (by simp [ixBad])⟩
    · exact ⟨hF, ixBad_may (s := fulS 401) (by simp [ixBad])⟩
end

theorem adQ_ok : ∀ p ∈ [adQ], PlaceOk p := by intro p hp; simp at hp; subst hp; unfold PlaceOk adQ; decide
theorem adQR_ok : ∀ p ∈ [adQ, adR], PlaceOk p := by intro p hp; simp at hp; rcases hp with rfl | rfl <;> (unfold PlaceOk; decide)
theorem no_ok : ∀ p ∈ ([] : List Place), PlaceOk p := fun p hp => absurd hp List.not_mem_nil
abbrev twoV (gS gA gP : Nat) : Rws := ⟨some ⟨gS, 0, none⟩, 1, 1, some ⟨gA, 0, none⟩, 2, 2, some ⟨gP, 0, none⟩, 2, 2⟩
/-- An answer that is a state and an error. -/
abbrev stAns (z : Int) (s : St) (w : World) (e : Ending) (w' : World) : Prop := ∃ B1 n1 c1 B2 n2 c2 B3 n3 c3, e = .returned (.tuple #[.agg #[.int .i64 s.k, .int .i64 s.n, .int .i64 s.next, .slice B1 n1 c1, .slice B2 n2 c2, .slice B3 n3 c3], .int .i64 z]) ∧ AddOut w w' ⟨B1, n1, c1, B2, n2, c2, B3, n3, c3⟩ s
section
variable {v : Rws} {s : St} {w : World}
theorem bad_Find (h : StAt w w.heap.size v s) (hm : mayIdx s.cs s.ps = false) : Calls Try.prog 19 #[v.val s, .string kA] w fun e w' => e = .returned (.tuple #[.agg #[.string ⟨#[]⟩, .int .i64 0, .int .i64 0], .int .i64 4]) ∧ Below w.heap.size w w' := by
  have := index_Find v s kA w h
  rw [findP_form hm] at this
  exact this
theorem any_Add {ds : List ByteArray} {qs : List Place} {r : St} {z : Int} (h : StAt w w.heap.size v s) {A A' : Option Addr} {n c n' c' : Nat} (hd : StrsAt w w.heap.size A n ds) (hq : PlacesAt w w.heap.size A' n' qs) (hqok : ∀ p ∈ qs, PlaceOk p) (hn : n ≤ 1000) (he : addIdx s ds qs = (r, z)) :
    Calls Try.prog 16 #[v.val s, .slice A n c, .slice A' n' c'] w (stAns z r w) := by
  have h1 := index_Add v s A n c ds A' n' c' qs w h hd hq hqok hn
  rw [he] at h1
  exact h1.mono fun e w' ⟨⟨B1, n1, c1, B2, n2, c2, B3, n3, c3⟩, h2, h3⟩ => ⟨B1, n1, c1, B2, n2, c2, B3, n3, c3, h2, h3⟩
theorem any_Drop {ds : List ByteArray} {r : St} {z : Int} (h : StAt w w.heap.size v s) {A : Option Addr} {n c : Nat} (hd : StrsAt w w.heap.size A n ds) (hn : n ≤ 1000) (he : dropIdx s ds = (r, z)) :
    Calls Try.prog 20 #[v.val s, .slice A n c] w (stAns z r w) := by
  have h1 := index_Drop v s A n c ds w h hd hn
  rw [he] at h1
  exact h1.mono fun e w' ⟨⟨B1, n1, c1, B2, n2, c2, B3, n3, c3⟩, h2, h3⟩ => ⟨B1, n1, c1, B2, n2, c2, B3, n3, c3, h2, h3⟩
theorem bad_Add (h : StAt w w.heap.size v s) (hm : mayIdx s.cs s.ps = false) : Calls Try.prog 16 #[v.val s, .slice none 0 0, .slice none 0 0] w (stAns 4 stNone w) :=
  any_Add (ds := []) (qs := []) h RowAt.none_ RowAt.none_ (fun p hp => absurd hp List.not_mem_nil) (by omega) (by unfold addIdx; rw [if_neg (by rw [hm]; simp)])
theorem bad_Drop (h : StAt w w.heap.size v s) (hm : mayIdx s.cs s.ps = false) : Calls Try.prog 20 #[v.val s, .slice none 0 0] w (stAns 4 stNone w) :=
  any_Drop (ds := []) h RowAt.none_ (by omega) (by unfold dropIdx; rw [if_neg (by rw [hm]; simp)])
theorem bad_Packs (h : StAt w w.heap.size v s) (hm : mayIdx s.cs s.ps = false) : Calls Try.prog 21 #[v.val s] w fun e w' => ∃ u, e = .returned (.tuple #[u, .int .i64 4]) ∧ Below w.heap.size w w' := by
  have h1 := index_Packs v s w h
  rw [show packsRes s = ([], 4) by unfold packsRes; rw [if_neg (by rw [hm]; simp)]] at h1
  exact h1.mono fun e w' ⟨u, h2, _, h3⟩ => ⟨u, h2, h3⟩
theorem bad_Of (h : StAt w w.heap.size v s) (hm : mayIdx s.cs s.ps = false) : Calls Try.prog 22 #[v.val s, .string kP] w fun e w' => ∃ u1 u2, e = .returned (.tuple #[u1, u2, .int .i64 4]) ∧ Below w.heap.size w w' :=
  (index_Of v s kP w h).mono fun e w' ⟨u1, u2, D, P, z, h1, h2, _, _, h3⟩ => by
    rcases h2 with ⟨_, _, _, rfl⟩ | ⟨a, _⟩
    · exact ⟨u1, u2, h1, h3⟩
    · rw [hm] at a
      cases a
theorem any_May (h : StAt w w.heap.size v s) {b : Bool} (hm : mayIdx s.cs s.ps = b) : Calls Try.prog 17 #[v.val s] w fun e w' => e = .returned (.bool b) ∧ Below w.heap.size w w' := by
  have h1 := index_May s.k s.n s.next v.A1 v.n1 v.c1 v.A2 v.n2 v.c2 v.A3 v.n3 v.c3 s.cs s.ps w h.cs h.ps h.ok
  rw [hm] at h1
  exact h1
theorem two_Of_p (h : StAt w w.heap.size v ixTwo) : Calls Try.prog 22 #[v.val ixTwo, .string kP] w fun e w' => ∃ A n c A' n' c', e = .returned (.tuple #[.slice A n c, .slice A' n' c', .int .i64 0]) ∧ StrsAt w' w'.heap.size A n [kB, kA] ∧ PlacesAt w' w'.heap.size A' n' [⟨kP, 0, 5⟩, ⟨kP, 5, 5⟩] ∧ Below w.heap.size w w' :=
  (index_Of v ixTwo kP w h).mono fun e w' ⟨u1, u2, D, P, z, h1, h2, h3, h4, h5⟩ => by
    obtain ⟨rfl, rfl, rfl⟩ := two_of_p h2
    obtain ⟨A, n, c, rfl, r1⟩ := Owns.view (k := 1) (enc := strCell) (fun _ => rfl) h3
    obtain ⟨A', n', c', rfl, r2⟩ := Owns.view (k := 3) (enc := Place.cells) (fun _ => rfl) h4
    exact ⟨A, n, c, A', n', c', h1, r1, r2, h5⟩
theorem two_Of_q (h : StAt w w.heap.size v ixTwo) : Calls Try.prog 22 #[v.val ixTwo, .string kQ] w fun e w' => ∃ u1 u2, e = .returned (.tuple #[u1, u2, .int .i64 5]) ∧ Below w.heap.size w w' :=
  (index_Of v ixTwo kQ w h).mono fun e w' ⟨u1, u2, D, P, z, h1, h2, _, _, h3⟩ => by
    obtain rfl := two_of_q h2
    exact ⟨u1, u2, h1, h3⟩
theorem ful3_Packs (h : StAt w w.heap.size v (fulS 3)) : Calls Try.prog 21 #[v.val (fulS 3)] w fun e w' => ∃ A n c, e = .returned (.tuple #[.slice A n c, .int .i64 0]) ∧ StrsAt w' w'.heap.size A n (fulCs 3) ∧ Below w.heap.size w w' := by
  have h1 := index_Packs v (fulS 3) w h
  rw [ful_packs3] at h1
  exact h1.mono fun e w' ⟨u, h2, h3, h4⟩ => by
    obtain ⟨A, n, c, rfl, r1⟩ := Owns.view (k := 1) (enc := strCell) (fun _ => rfl) h3
    exact ⟨A, n, c, h2, r1, h4⟩
end
end Go.Proofs.Ytbfephekkfieaaa
