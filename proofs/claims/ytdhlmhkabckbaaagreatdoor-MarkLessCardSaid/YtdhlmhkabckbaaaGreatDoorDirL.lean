/-
  Package walk, read: what is read of a root's chunks (the plain law).
-/
import Derived.Test.YtdhlmhkabckbaaaGreatDoorEntA
import Derived.Test.YtdhlmhkabckbaaaGreatDoorWkA
import Derived.Test.YtdhlmhkabckbaaaGreatDoorNdA
import Derived.Test.YtdhlmhkabckbaaaGreatDoorRfO
namespace Go.Proofs.YtdhlmhkabckbaaaGreatDoor
open Go.RowKit

/-- A file, or a directory, of a tree. -/
structure FileX where
  path : ByteArray
  dir : Bool
  data : ByteArray
/-- What is read so far: how many entries there may be still, which digests are needed, what stands in the tree. -/
structure DSt where
  left : Int
  needs : List ByteArray
  out : List FileX

/-- A file's bytes, of its chunks; or what is thrown. -/
def findAll (C : ByteArray → Option ByteArray) (sz : Int) : List ByteArray → ByteArray → Int × ByteArray
  | [], acc => if (acc.size : Int) = sz then (0, acc) else (4, acc)
  | c :: r, acc => match C c with
    | none => (5, acc)
    | some b => if sz < ((acc ++ b).size : Int) then (4, acc) else findAll C sz r (acc ++ b)

abbrev slashS : ByteArray := ⟨#[47]⟩
/-- A directory's entries, behind one another; D: a directory within. -/
def entsF (D : ByteArray → ByteArray → DSt → Int × DSt) (C : ByteArray → Option ByteArray) (whole : Bool) (ahead : ByteArray) : List Ent → DSt → Int × DSt
  | [], s => (0, s)
  | x :: r, s =>
    if x.dir then
      let q := D (x.chunks.headD ⟨#[]⟩) (ahead ++ x.name ++ slashS) ⟨s.left, s.needs, s.out ++ [⟨ahead ++ x.name, true, ⟨#[]⟩⟩]⟩
      if q.1 = 0 then entsF D C whole ahead r q.2 else q
    else if whole then
      let q := findAll C x.size x.chunks ⟨#[]⟩
      if q.1 = 0 then entsF D C whole ahead r ⟨s.left, s.needs ++ x.chunks, s.out ++ [⟨ahead ++ x.name, false, q.2⟩]⟩ else (q.1, s)
    else entsF D C whole ahead r ⟨s.left, s.needs ++ x.chunks, s.out⟩

/-- A directory: what is thrown (0: nothing), and what is read then. R: what node.Read tells. -/
def dirF (R : ByteArray → List Ent × Int) (C : ByteArray → Option ByteArray) (whole : Bool) : Nat → ByteArray → ByteArray → DSt → Int × DSt
  | 0, _, _, s => (4, s)
  | f + 1, d, ahead, s => match C d with
    | none => (5, s)
    | some b => if (R b).2 = 0 then
        if s.left < ((R b).1.length : Int) then (4, s) else entsF (dirF R C whole f) C whole ahead (R b).1 ⟨s.left - (R b).1.length, s.needs ++ [d], s.out⟩
      else (4, s)

/-- What a root needs; or how it is refused. -/
def needF (R : ByteArray → List Ent × Int) (C : ByteArray → Option ByteArray) (root : ByteArray) : List ByteArray × Int :=
  if (root.size : Int) = 32 then
    let q := dirF R C false 300 root ⟨#[]⟩ ⟨256, [], []⟩
    if q.1 = 0 then (q.2.needs, 0) else ([], q.1)
  else ([], 1)

/-! What is counted on the way. -/
def fits (M A O : Nat) (s : DSt) (k : Nat) (ahead : ByteArray) : Prop :=
  0 ≤ s.left ∧ (s.needs.length : Int) + (s.left + k) * 70001 ≤ M ∧ (ahead.size : Int) + (s.left + k) * 100 ≤ A ∧ (s.out.length : Int) + (s.left + k) ≤ O
/-- No more is left, needed, or told than the entries allow. -/
def goes (s t : DSt) (k c : Nat) : Prop :=
  0 ≤ t.left ∧ t.left ≤ s.left ∧ (t.needs.length : Int) + t.left * 70001 ≤ s.needs.length + (s.left + k) * 70001 + c ∧ (t.out.length : Int) + t.left ≤ s.out.length + (s.left + k)

theorem entsF_goes (D : ByteArray → ByteArray → DSt → Int × DSt) (C : ByteArray → Option ByteArray) (whole : Bool) (ahead : ByteArray)
    (hD : ∀ d a s, 0 ≤ s.left → (D d a s).1 = 0 → goes s (D d a s).2 0 1) : ∀ (l : List Ent) (s : DSt), 0 ≤ s.left → (∀ x ∈ l, x.chunks.length ≤ 70000) → (entsF D C whole ahead l s).1 = 0 → goes s (entsF D C whole ahead l s).2 l.length 0
  | [], s, h0, _, _ => ⟨h0, by simp [entsF], by simp [entsF], by simp [entsF]⟩
  | x :: r, s, h0, hl, h => by
    unfold entsF at h ⊢
    have hx := hl x (by simp)
    have hr : ∀ y ∈ r, y.chunks.length ≤ 70000 := fun y hy => hl y (by simp [hy])
    split at h
    · rename_i hd
      rw [if_pos hd]
      dsimp only at h ⊢
      split at h
      · rename_i hq
        rw [if_pos hq]
        have h1 := hD _ _ ⟨s.left, s.needs, s.out ++ [⟨ahead ++ x.name, true, ⟨#[]⟩⟩]⟩ h0 hq
        obtain ⟨a1, a2, a3, a4⟩ := h1
        obtain ⟨b1, b2, b3, b4⟩ := entsF_goes D C whole ahead hD r _ a1 hr h
        simp only [List.length_append, List.length_cons, List.length_nil] at a2 a3 a4 ⊢
        refine ⟨b1, ?_, ?_, ?_⟩ <;> omega
      · rename_i hq
        exact absurd h hq
    · rename_i hd
      rw [if_neg hd]
      split at h
      · rename_i hw
        rw [if_pos hw]
        dsimp only at h ⊢
        split at h
        · rename_i hq
          rw [if_pos hq]
          obtain ⟨b1, b2, b3, b4⟩ := entsF_goes D C whole ahead hD r ⟨s.left, s.needs ++ x.chunks, s.out ++ [⟨ahead ++ x.name, false, (findAll C x.size x.chunks ⟨#[]⟩).2⟩]⟩ h0 hr h
          simp only [List.length_append, List.length_cons, List.length_nil] at b2 b3 b4 ⊢
          refine ⟨b1, b2, ?_, ?_⟩ <;> omega
        · rename_i hq
          exact absurd h hq
      · rename_i hw
        rw [if_neg hw]
        obtain ⟨b1, b2, b3, b4⟩ := entsF_goes D C whole ahead hD r ⟨s.left, s.needs ++ x.chunks, s.out⟩ h0 hr h
        simp only [List.length_append, List.length_cons] at b2 b3 b4 ⊢
        refine ⟨b1, b2, ?_, ?_⟩ <;> omega

theorem dirF_goes (R : ByteArray → List Ent × Int) (C : ByteArray → Option ByteArray) (whole : Bool) (hR : ∀ b, ∀ x ∈ (R b).1, x.chunks.length ≤ 70000) :
    ∀ (f : Nat) (d ahead : ByteArray) (s : DSt), 0 ≤ s.left → (dirF R C whole f d ahead s).1 = 0 → goes s (dirF R C whole f d ahead s).2 0 1
  | 0, d, ahead, s, _, h => by simp [dirF] at h
  | f + 1, d, ahead, s, h0, h => by
    unfold dirF at h ⊢
    cases hc : C d with
    | none => rw [hc] at h; simp at h
    | some b =>
      rw [hc] at h
      dsimp only at h ⊢
      split at h
      · rename_i h2
        rw [if_pos h2]
        split at h
        · simp at h
        · rename_i h3
          rw [if_neg h3]
          have hl : 0 ≤ s.left - ((R b).1.length : Int) := by omega
          obtain ⟨b1, b2, b3, b4⟩ := entsF_goes _ C whole ahead (fun d a s h => dirF_goes R C whole hR f d a s h) (R b).1 ⟨s.left - (R b).1.length, s.needs ++ [d], s.out⟩ hl (hR b) h
          simp only [List.length_append, List.length_cons, List.length_nil] at b2 b3 b4 ⊢
          refine ⟨b1, ?_, ?_, ?_⟩ <;> omega
      · simp at h
end Go.Proofs.YtdhlmhkabckbaaaGreatDoor
/-
  Package walk, read: a reader in memory; what it does to memory.
-/
namespace Go.Proofs.YtdhlmhkabckbaaaGreatDoor
open Go.RowKit

def fileCells (x : FileX) : List Value := [.string x.path, .bool x.dir, .string x.data]
def fileE : Elem FileX where
  T := 39
  S := 32
  k := 3
  bytes := 40
  enc := fileCells
  z := .agg #[.string ⟨#[]⟩, .bool false, .string ⟨#[]⟩]
  und := Tryz.underlying32
  info := by kernel_rfl
  zc := rfl
  pos := by decide
  small := by decide
  len := fun _ => rfl
  one := fun x u hu => by simp [fileCells] at hu; rcases hu with rfl | rfl | rfl <;> rfl

/-- A reader in block br: the chunks at hand are C (map mb), what is needed is counted in map nb, the tree's entries lie in a row of the call's own from block bs on. -/
structure RdAt (C : ByteArray → Option ByteArray) (W : World) (br mb nb bs N : Nat) (whole : Bool) (V : Value) (s : DSt) : Prop where
  box : W.heap[br]? = some (.cells #[.map (some mb), .bool whole, .int .i64 s.left, .map (some nb), V] 87)
  kept : KeptAt W mb N C
  cnt : CntAt W nb s.needs
  own : fileE.Own W bs V s.out
  lt : br < bs ∧ mb < bs ∧ nb < bs ∧ mb ≠ br ∧ nb ≠ br ∧ mb ≠ nb ∧ bs ≤ W.heap.size

/-- What a reader's step does to memory: its own box, its own map, its own row. -/
structure RdT (br nb : Nat) (W W' : World) (V V' : Value) : Prop where
  os : W'.os = W.os
  tape : W'.tape = W.tape
  output : W'.output = W.output
  size : W.heap.size ≤ W'.heap.size
  block : ∀ i, i < W.heap.size → i ≠ br → i ≠ nb → V.ownBlock ≠ some i → W'.heap[i]? = W.heap[i]?
  own : V'.ownBlock = V.ownBlock ∨ ∀ i, V'.ownBlock = some i → W.heap.size ≤ i

section
variable {C : ByteArray → Option ByteArray} {W W' W'' : World} {br mb nb bs N : Nat} {whole : Bool} {V V' V'' : Value} {s : DSt}
theorem RdT.refl (br nb : Nat) (W : World) (V : Value) : RdT br nb W W V V := ⟨rfl, rfl, rfl, Nat.le_refl _, fun _ _ _ _ _ => rfl, .inl rfl⟩
theorem RdT.trans (h : RdT br nb W W' V V') (k : RdT br nb W' W'' V' V'') : RdT br nb W W'' V V'' :=
  ⟨k.os.trans h.os, k.tape.trans h.tape, k.output.trans h.output, Nat.le_trans h.size k.size,
    fun i hi h1 h2 h3 => (k.block i (Nat.lt_of_lt_of_le hi h.size) h1 h2 (fun e => by
      rcases h.own with h4 | h4
      · exact h3 (h4 ▸ e)
      · have := h4 i e; omega)).trans (h.block i hi h1 h2 h3),
    by
      rcases k.own with h4 | h4
      · rcases h.own with h5 | h5
        · exact .inl (h4.trans h5)
        · exact .inr fun i hi => h5 i (h4 ▸ hi)
      · exact .inr fun i hi => Nat.le_trans h.size (h4 i hi)⟩
theorem RdT.of (h : Below W.heap.size W W') : RdT br nb W W' V V := ⟨h.os, h.tape, h.output, h.size, fun i hi _ _ _ => h.block i hi, .inl rfl⟩
theorem RdT.set (o : Nat) (v : Value) : RdT br nb W (W.setCell ⟨br, o, none⟩ v) V V :=
  ⟨rfl, rfl, rfl, by simp, fun i _ h1 _ _ => Go.Deep.blk_setCell_other _ _ _ _ (by simpa using h1), .inl rfl⟩
theorem RdT.count (h : W.grownBy W' (some nb)) : RdT br nb W W' V V :=
  ⟨h.os, h.tape, h.output, h.size, fun i hi _ h2 _ => h.block i hi (fun e => h2 (by injection e)), .inl rfl⟩
theorem RdT.app (h : W.grownBy W' V.ownBlock) (hat : V'.ownBlock = V.ownBlock ∨ V'.ownBlock = some W.heap.size) : RdT br nb W W' V V' :=
  ⟨h.os, h.tape, h.output, h.size, fun i hi _ _ h3 => h.block i hi (fun e => h3 e.symm), hat.imp id fun e i hi => by rw [e] at hi; injection hi with hi; omega⟩
/-- Seen from outside. -/
theorem RdT.below {w0 : World} (h : RdT br nb W W' V V') (hb : Below w0.heap.size w0 W) (h1 : w0.heap.size ≤ br) (h2 : w0.heap.size ≤ nb) (h3 : ∀ i, V.ownBlock = some i → w0.heap.size ≤ i) : Below w0.heap.size w0 W' :=
  ⟨h.os.trans hb.os, h.tape.trans hb.tape, h.output.trans hb.output, Nat.le_trans hb.size h.size, fun i hi => (h.block i (Nat.lt_of_lt_of_le hi hb.size) (by omega) (by omega) (fun e => by have := h3 i e; omega)).trans (hb.block i hi)⟩

theorem RdAt.cells (h : RdAt C W br mb nb bs N whole V s) : W.cell? ⟨br, 0, none⟩ = some (.map (some mb)) ∧ W.cell? ⟨br, 1, none⟩ = some (.bool whole) ∧ W.cell? ⟨br, 2, none⟩ = some (.int .i64 s.left) ∧ W.cell? ⟨br, 3, none⟩ = some (.map (some nb)) ∧ W.cell? ⟨br, 4, none⟩ = some V :=
  ⟨(cell_of_row W _ 0 _ _ _ h.box).trans rfl, (cell_of_row W _ 1 _ _ _ h.box).trans rfl, (cell_of_row W _ 2 _ _ _ h.box).trans rfl, (cell_of_row W _ 3 _ _ _ h.box).trans rfl, (cell_of_row W _ 4 _ _ _ h.box).trans rfl⟩
theorem RdAt.frozen (h : RdAt C W br mb nb bs N whole V s) (o : Nat) : W.frozen? ⟨br, o, none⟩ = false := by
  have := h.box
  unfold World.frozen?
  simp [this]
theorem RdAt.at_lt (h : RdAt C W br mb nb bs N whole V s) : br < W.heap.size := (Array.getElem?_eq_some_iff.1 h.box).1
theorem RdAt.below (h : RdAt C W br mb nb bs N whole V s) (hb : Below W.heap.size W W') : RdAt C W' br mb nb bs N whole V s :=
  ⟨(hb.block _ h.at_lt).trans h.box, h.kept.below h.kept.lt hb, h.cnt.below hb, Owns.below h.own hb, h.lt.1, h.lt.2.1, h.lt.2.2.1, h.lt.2.2.2.1, h.lt.2.2.2.2.1, h.lt.2.2.2.2.2.1, Nat.le_trans h.lt.2.2.2.2.2.2 hb.size⟩
theorem RdAt.left (h : RdAt C W br mb nb bs N whole V s) (x : Int) : RdAt C (W.setCell ⟨br, 2, none⟩ (.int .i64 x)) br mb nb bs N whole V ⟨x, s.needs, s.out⟩ := by
  obtain ⟨h1, h2, h3, h4, l1, l2, l3, l4, l5, l6, l7⟩ := h
  refine ⟨hset h1 _, h2.block (Go.Deep.blk_setCell_other _ _ _ _ (by simpa using l4)), ?_, Owns.setAway h4 _ l1, l1, l2, l3, l4, l5, l6, by simpa using l7⟩
  obtain ⟨a, D, ⟨es, clock, h5, h6⟩, h7⟩ := h3
  exact ⟨a, D, ⟨es, clock, (Go.Deep.blk_setCell_other _ _ _ _ (by simpa using l5)).trans h5, h6⟩, h7⟩
theorem RdAt.count (h : RdAt C W br mb nb bs N whole V s) {l : List ByteArray} (hc : CntAt W' nb l) (hg : W.grownBy W' (some nb)) : RdAt C W' br mb nb bs N whole V ⟨s.left, l, s.out⟩ := by
  obtain ⟨h1, h2, h3, h4, l1, l2, l3, l4, l5, l6, l7⟩ := h
  have hk : ∀ i, i < W.heap.size → i ≠ nb → W'.heap[i]? = W.heap[i]? := fun i hi hn => hg.block i hi (fun e => hn (by injection e))
  exact ⟨(hk br (Array.getElem?_eq_some_iff.1 h1).1 (Ne.symm l5)).trans h1, h2.block (hk mb h2.lt l6), hc, Owns.grown h4 hg (.inr fun e => by have := (Owns.within h4 e).1; omega), l1, l2, l3, l4, l5, l6, Nat.le_trans l7 hg.size⟩
theorem RdAt.app (h : RdAt C W br mb nb bs N whole V s) {l : List FileX} (ho : fileE.Own W' bs V' l) (hg : W.grownBy W' V.ownBlock) (hN : CntAt W' nb s.needs) : RdAt C (W'.setCell ⟨br, 4, none⟩ V') br mb nb bs N whole V' ⟨s.left, s.needs, l⟩ := by
  obtain ⟨h1, h2, h3, h4, l1, l2, l3, l4, l5, l6, l7⟩ := h
  have hk : ∀ i, i < W.heap.size → i < bs → W'.heap[i]? = W.heap[i]? := fun i hi hn => hg.block i hi (fun e => by have := (Owns.within h4 e.symm).1; omega)
  have h1' := (hk br (Array.getElem?_eq_some_iff.1 h1).1 l1).trans h1
  refine ⟨hset h1' _, h2.block ((Go.Deep.blk_setCell_other _ _ _ _ (by simpa using l4)).trans (hk mb h2.lt l2)), ?_, Owns.setAway ho _ l1, l1, l2, l3, l4, l5, l6, by have := hg.size; simp; omega⟩
  obtain ⟨a, D, ⟨es, clock, h5, h6⟩, h7⟩ := hN
  exact ⟨a, D, ⟨es, clock, (Go.Deep.blk_setCell_other _ _ _ _ (by simpa using l5)).trans h5, h6⟩, h7⟩
end

set_option maxRecDepth 100000 in
theorem walk_find_ok (b mb N : Nat) (C : ByteArray → Option ByteArray) (d c : ByteArray) (w : World) (h0 : w.cell? ⟨b, 0, none⟩ = some (.map (some mb))) (hK : KeptAt w mb N C) (hc : C d = some c) (hd : d.size ≤ maxLen) :
    Calls Tryz.prog 131 #[.pointer (some ⟨b, 0, none⟩), .string d] w fun e w' => e = .returned (.string c) ∧ Below w.heap.size w w' := by
  have hl := hK.look d hd
  rw [hc] at hl
  simp only [Option.getD_some, Option.isSome_some] at hl
  replace hc := Lib.hid hc
  go_enter Tryz.func131, Tryz.ntmps131
  go_wp2_with fail
  go_ret
  exact ⟨rfl, (Below.refl _ w).alloc (Nat.le_refl _) _⟩
theorem walk_find_bad (b mb N : Nat) (C : ByteArray → Option ByteArray) (d : ByteArray) (w : World) (h0 : w.cell? ⟨b, 0, none⟩ = some (.map (some mb))) (hK : KeptAt w mb N C) (hc : C d = none) (hd : d.size ≤ maxLen) :
    Calls Tryz.prog 131 #[.pointer (some ⟨b, 0, none⟩), .string d] w fun e w' => e = thrown 5 ∧ Below w.heap.size w w' := by
  have hl := hK.look d hd
  rw [hc] at hl
  exact walk_find_none b mb d w h0 hl
end Go.Proofs.YtdhlmhkabckbaaaGreatDoor

/-
  Package walk, read: the walk of a directory.
-/
namespace Go.Proofs.YtdhlmhkabckbaaaGreatDoor
open Go.RowKit

abbrev rdM (b : ByteArray) : List Ent × Int := rdNode mayP b
theorem mayN_of {P : ByteArray → Bool} : ∀ {l : List Ent} {o : Option ByteArray}, mayNgo P o l = true → ∀ x ∈ l, entMay P x = true
  | [], _, _, _, h => by simp at h
  | e :: r, o, h, x, hx => by
    unfold mayNgo at h
    simp only [Bool.and_eq_true] at h
    rcases List.mem_cons.1 hx with rfl | hx
    · exact h.1.1
    · exact mayN_of h.2 x hx
theorem rdNode_may {P : ByteArray → Bool} {b : ByteArray} (x : Ent) (hx : x ∈ (rdNode P b).1) : entMay P x = true := by
  unfold rdNode at hx
  dsimp only at hx
  split at hx
  · simp at hx
  · rename_i h
    dsimp only at hx
    simp only [Bool.or_eq_true, not_or, Bool.not_eq_true, Bool.not_eq_false'] at h
    have := h.2
    unfold mayN at this
    simp only [Bool.and_eq_true] at this
    exact mayN_of this.1 x hx
theorem rdNode_len {P : ByteArray → Bool} (b : ByteArray) : (rdNode P b).1.length ≤ 256 := by
  unfold rdNode
  dsimp only
  split
  · simp
  · rename_i h
    simp only [Bool.or_eq_true, not_or, Bool.not_eq_true, Bool.not_eq_false'] at h
    have := h.2
    unfold mayN at this
    simp only [Bool.and_eq_true, decide_eq_true_eq] at this
    exact this.2
theorem entMay_name {x : Ent} (h : entMay mayP x = true) : x.name.size ≤ 96 := by
  unfold entMay mayP at h
  simp only [Bool.and_eq_true, decide_eq_true_eq] at h
  omega
theorem entMay_chunk {P : ByteArray → Bool} {x : Ent} (h : entMay P x = true) (c : ByteArray) (hc : c ∈ x.chunks) : c.size = 32 := by
  unfold entMay at h
  simp only [Bool.and_eq_true, Bool.not_eq_true', List.any_eq_false] at h
  have := h.1.2 c hc
  unfold not32 at this
  simp only [Bool.not_eq_true, Bool.not_eq_false', decide_eq_true_eq] at this
  omega
theorem entMay_dir {P : ByteArray → Bool} {x : Ent} (h : entMay P x = true) (hd : x.dir = true) : x.chunks.length = 1 := by
  unfold entMay formF at h
  simp only [Bool.and_eq_true, hd, if_true, decide_eq_true_eq] at h
  omega
theorem entMay_few {P : ByteArray → Bool} {x : Ent} (h : entMay P x = true) : x.chunks.length ≤ 70000 := by
  unfold entMay formF at h
  simp only [Bool.and_eq_true] at h
  have h2 := h.2
  split at h2
  · simp only [Bool.and_eq_true, decide_eq_true_eq] at h2
    omega
  · simp only [Bool.and_eq_true, decide_eq_true_eq] at h2
    omega
theorem NewEnts.str {w : World} {B : Nat} {A : Option Addr} {n c : Nat} {L : List EntX} (h : NewEnts w B (.slice A n c) L) {k : Nat} {x : EntX} (hx : L[k]? = some x) : StrsAt w w.heap.size x.2.1 x.2.2.1 x.1.chunks := (h.row.strs x (List.mem_of_getElem? hx)).1
theorem NewEnts.rd {W W' : World} {B br nb : Nat} {V V' Vl : Value} {L : List EntX} (h : NewEnts W B Vl L) (ht : RdT br nb W W' V V') (h1 : br < B) (h2 : nb < B) (h3 : ∀ i, V.ownBlock = some i → i < B) : NewEnts W' B Vl L :=
  h.to fun i hi hl => ht.block i hl (by omega) (by omega) (fun e => by have := h3 i e; omega)

/-- What a call of dir, or of file, may come to. -/
def RdPost (C : ByteArray → Option ByteArray) (br mb nb bs N : Nat) (whole : Bool) (V : Value) (W : World) (q : Int × DSt) (e : Ending) (W' : World) : Prop :=
  (q.1 = 0 ∧ e = .returned (.tuple #[]) ∧ ∃ V', RdAt C W' br mb nb bs N whole V' q.2 ∧ RdT br nb W W' V V') ∨ (q.1 ≠ 0 ∧ e = thrown q.1 ∧ ∃ V', RdT br nb W W' V V')
abbrev fileV (x : EntX) : Value := .agg #[.string x.1.name, .bool x.1.dir, .int .i64 x.1.size, .slice x.2.1 x.2.2.1 x.2.2.2]

set_option maxRecDepth 100000 in
set_option maxHeartbeats 8000000 in
theorem walk_dir (C : ByteArray → Option ByteArray) (br mb nb bs N : Nat) (whole : Bool) (hC : ∀ d c, C d = some c → c.size ≤ 1000000)
    (hfile : whole = true → ∀ (W : World) (V : Value) (s : DSt) (x : EntX) (p : ByteArray), RdAt C W br mb nb bs N whole V s → s.out.length ≤ 1000 → StrsAt W W.heap.size x.2.1 x.2.2.1 x.1.chunks → (∀ c ∈ x.1.chunks, c.size = 32) →
      Calls Tryz.prog 133 #[.pointer (some ⟨br, 0, none⟩), fileV x, .string p] W
        (RdPost C br mb nb bs N whole V W ((findAll C x.1.size x.1.chunks ⟨#[]⟩).1, ⟨s.left, s.needs, s.out ++ [⟨p, false, (findAll C x.1.size x.1.chunks ⟨#[]⟩).2⟩]⟩))) :
    ∀ (f : Nat) (d ahead : ByteArray) (s : DSt) (V : Value) (W : World), d.size ≤ 1000000 → RdAt C W br mb nb bs N whole V s → fits 20000000 40000 1000 s 0 ahead → s.left < f →
      Calls Tryz.prog 95 #[.pointer (some ⟨br, 0, none⟩), .string d, .string ahead] W (RdPost C br mb nb bs N whole V W (dirF rdM C whole f d ahead s))
  | 0, d, ahead, s, V, W, hd, hR, hf, hl => by
    have := hf.1
    omega
  | f + 1, d, ahead, s, V, W, hd, hR, hf, hl => by
    have ih := walk_dir C br mb nb bs N whole hC hfile f
    obtain ⟨y0, y1, y2, y3, y4⟩ := hR.cells
    have hdm : d.size ≤ maxLen := by simp only [maxLen]; omega
    have hq : Hid (dirF rdM C whole (f + 1) d ahead s = match C d with
      | none => (5, s)
      | some b => if (rdM b).2 = 0 then
          if s.left < ((rdM b).1.length : Int) then (4, s) else entsF (dirF rdM C whole f) C whole ahead (rdM b).1 ⟨s.left - (rdM b).1.length, s.needs ++ [d], s.out⟩
        else (4, s)) := rfl
    cases hc : C d with
    | none =>
      rw [hc] at hq
      have hfd := walk_find_bad br mb N C d W y0 hR.kept hc hdm
      replace hc := Lib.hid hc
      replace ih := Lib.hid ih
      replace hR := Lib.hid hR
      clear y0 y1 y2 y3 y4
      go_enter Tryz.func95, Tryz.ntmps95
      go_wp2_with fail
      refine hfd.mono ?_
      rintro e w1 ⟨rfl, hb1⟩
      unfold thrown
      go_wp2_with fail
      refine ⟨rfl, ?_⟩
      rw [hq.out]
      exact Or.inr ⟨by simp, rfl, V, RdT.of hb1⟩
    | some b =>
      rw [hc] at hq
      dsimp only at hq
      have hfd := walk_find_ok br mb N C d b W y0 hR.kept hc hdm
      have hbs := hC d b hc
      have hnr := fun W' => node_Read mayP (fun s W => path_May s W) b hbs W'
      have hmay := fun x hx => rdNode_may (P := mayP) (b := b) x hx
      have hlen := rdNode_len (P := mayP) b
      have hlts := hR.lt
      have hVo : ∀ i, V.ownBlock = some i → i < W.heap.size := fun i hi => (Owns.within hR.own hi).2
      have hl0 := hf.1
      have hl1 : s.left ≤ 1000 := by have := hf.2.2.2; omega
      obtain ⟨l, z, hlz⟩ : ∃ l z, rdM b = (l, z) := ⟨_, _, rfl⟩
      rw [show rdNode mayP b = rdM b from rfl, hlz] at hnr hmay hlen
      rw [hlz] at hq
      dsimp only at hnr hmay hq hlen
      replace hVo := Lib.hid hVo
      replace hlz := Lib.hid hlz
      replace hc := Lib.hid hc
      replace ih := Lib.hid ih
      replace hmay := Lib.hid hmay
      replace hnr := Lib.hid hnr
      go_enter Tryz.func95, Tryz.ntmps95
      go_wp2_with fail
      refine hfd.mono ?_
      rintro e w1 ⟨rfl, hb1⟩
      have hR1 := Lib.hid (hR.below hb1)
      replace hR := Lib.hid hR
      clear y0 y1 y2 y3 y4 hfd
      go_wp2_with fail
      refine (hnr.out _).mono ?_
      rintro e w2 ⟨A, n, c, L, rfl, hE, hL, hb2⟩
      have hR2 := Lib.hid (hR1.out.below hb2)
      have hbw := hb1.trans (hb2.mono hb1.size)
      clear hR1 hnr
      by_cases hz : z = 0
      · subst hz
        rw [if_pos rfl] at hq
        obtain ⟨y0, y1, y2, y3, y4⟩ := hR2.out.cells
        go_upto_region 2 with (refine (walk_form_ok _).mono ?_; rintro e wz ⟨rfl, hw⟩; obtain rfl := hw.symm)
        have hcnt := hR2.out.cnt
        have hcl : s.needs.length < 1000000000 := by have := hf.2.1; have := hf.1; omega
        go_upto_region 3 with (first
          | (at_lookup; go_must (refine wpList_cnt_lookup _ rfl _ _ rfl nb _ rfl hcnt d rfl hdm ?_); intro c0 hc9 hc0)
          | (at_mapUpdate; go_must (refine wpList_cnt_update _ rfl _ _ _ rfl nb _ rfl hcnt hcl d rfl hdm c0 hc0 rfl ?_); intro w3 hcnt3 hg3))
        have hR3 := hR2.out.count hcnt3 hg3
        have hT3 : RdT br nb W w3 V V := (RdT.of hbw).trans (RdT.count hg3)
        have hE3 : NewEnts w3 w1.heap.size (.slice A n c) L := hE.rd (V := V) (V' := V) (RdT.count (br := br) hg3) (by have := hb1.size; omega) (by have := hb1.size; omega) (fun i hi => by have := hVo.out i hi; have := hb1.size; omega)
        clear y0 y1 y2 y3 y4 hcnt hcnt3 hg3
        obtain ⟨y0, y1, y2, y3, y4⟩ := hR3.cells
        have z2 := hR3.frozen 2
        obtain rfl : L.length = n := (Owns.row entE.len hE.own).1
        have hln : Hid (l.length = L.length) := by unfold Hid; rw [← hL]; simp
        rw [hln.out] at hlen hq
        go_upto_region 4 with fail
        have hR4 := hR3.left (s.left - L.length)
        have hT4 := hT3.trans (RdT.set (br := br) (nb := nb) (V := V) 2 (.int .i64 (s.left - L.length)))
        have hE4 : NewEnts (w3.setCell ⟨br, 2, none⟩ (.int .i64 (s.left - L.length))) w1.heap.size (.slice A L.length c) L := hE3.rd (V := V) (V' := V) (RdT.set (br := br) (nb := nb) 2 _) (by have := hb1.size; omega) (by have := hb1.size; omega) (fun i hi => by have := hVo.out i hi; have := hb1.size; omega)
        clear y0 y1 y2 y3 y4 z2 hR3 hT3 hE3 hE hb2
        generalize w3.setCell ⟨br, 2, none⟩ (.int .i64 (s.left - L.length)) = w4 at hR4 hT4 hE4 ⊢
        obtain ⟨y0, y1, y2, y3, y4⟩ := hR4.cells
        dsimp only at y2
        by_cases hlt : s.left < (L.length : Int)
        · rw [if_pos hlt] at hq
          have h1 : s.left - (L.length : Int) < 0 := by omega
          go_wp2_with fail
          refine (walk_form_bad _).mono ?_
          rintro e w5 ⟨rfl, hw⟩
          obtain rfl := hw.symm
          unfold thrown
          go_wp2_with fail
          refine ⟨rfl, ?_⟩
          rw [hq.out]
          exact Or.inr ⟨by simp, rfl, V, hT4⟩
        · rw [if_neg hlt] at hq
          have h1 : ¬ s.left - (L.length : Int) < 0 := by omega
          go_wp2_with (refine (walk_form_ok _).mono ?_; rintro e wz ⟨rfl, hw⟩; obtain rfl := hw.symm)
          have hBr : br < w1.heap.size ∧ nb < w1.heap.size := by have := hb1.size; omega
          have hVo1 : Hid (∀ i, V.ownBlock = some i → i < w1.heap.size) := fun i hi => by have := hVo.out i hi; have := hb1.size; omega
          have hf' : fits 20000001 40000 1000 ⟨s.left - L.length, s.needs ++ [d], s.out⟩ L.length ahead := by
            obtain ⟨f1, f2, f3, f4⟩ := hf
            refine ⟨?_, ?_, ?_, ?_⟩ <;> simp only [List.length_append, List.length_cons, List.length_nil] <;> omega
          have hL' := Lib.hid hL
          replace hf := Lib.hid hf
          clear hL hln hlt h1 hcl hl0 hl1 y0 y1 y2 y3 y4 hbs hdm hc0 hc9 hR2 hbw hw
          go_loopw [9, 10, 12, 47] (fun _ _ _ ti wr => ∃ (k : Nat) (sk : DSt) (Vk : Value), k ≤ L.length ∧ ti = .int .i64 k ∧ Hid (dirF rdM C whole (f + 1) d ahead s = entsF (dirF rdM C whole f) C whole ahead (l.drop k) sk) ∧
            Hid (RdAt C wr br mb nb bs N whole Vk sk) ∧ Hid (RdT br nb w4 wr V Vk) ∧ Hid (fits 20000001 40000 1000 sk (L.length - k) ahead) ∧ Hid (sk.left + (L.length - k : Nat) ≤ s.left)) (fun _ _ _ ti _ => L.length - (intOf ti).toNat)
          case atStart => exact ⟨0, _, V, Nat.zero_le _, rfl, hq, Lib.hid hR4, Lib.hid (RdT.refl _ _ _ _), Lib.hid hf', Lib.hid (by show s.left - (L.length : Int) + _ ≤ _; omega)⟩
          case round =>
            clear hf' hR4
            obtain ⟨k, sk, Vk, hk, rfl, hqk, hRk, hTk, hfk, hlk⟩ := hrel
            obtain ⟨wp, rfl⟩ : ∃ x : World, x = wr := ⟨_, rfl⟩
            by_cases hlt : k < L.length
            · have hEk : NewEnts wp w1.heap.size (.slice A L.length c) L := hE4.rd hTk.out hBr.1 hBr.2 hVo1.out
              obtain ⟨be, off, x, rfl, hbe, hx, z0, z1, z2, z3, hst, hch⟩ := hEk.row.at hlt
              have hmx := hmay.out x.1 (by rw [← hL'.out]; exact List.mem_map_of_mem (List.mem_of_getElem? hx))
              have hdr : Hid (l.drop k = x.1 :: l.drop (k + 1)) := by
                unfold Hid
                rw [← hL'.out, ← List.map_drop, ← List.map_drop, drop_cons hx]
                rfl
              obtain ⟨⟨name, dir, size, chunks⟩, Ac, nc, cc⟩ := x
              dsimp only at z0 z1 z2 z3 hst hch hmx hdr
              replace hx := Lib.hid hx
              have hnm := entMay_name hmx
              have hcs := entMay_chunk hmx
              dsimp only at hnm hcs
              replace hmx := Lib.hid hmx
              replace hcs := Lib.hid hcs
              replace hst := Lib.hid hst
              replace hEk := Lib.hid hEk
              have has : ahead.size ≤ 40000 := by have := hfk.out.2.2.1; have := hfk.out.1; omega
              have hbl : be < wp.heap.size := hbe
              go_upto_region 9 with fail
              have hq9 := heap_alloc_new wp (.cells #[.string name, .bool dir, .int .i64 size, .slice Ac nc cc] 111)
              have hb9 : Below wp.heap.size wp (wp.alloc (.cells #[.string name, .bool dir, .int .i64 size, .slice Ac nc cc] 111)) := (Below.refl _ wp).alloc (Nat.le_refl _) _
              have hR9 := hRk.out.below hb9
              have hT9 := hTk.out.trans (RdT.of hb9)
              have hVk : ∀ i, Vk.ownBlock = some i → i < wp.heap.size := fun i hi => (Owns.within hRk.out.own hi).2
              have hbx : br < wp.heap.size ∧ nb < wp.heap.size := by have := hRk.out.lt; omega
              generalize wp.alloc (.cells #[.string name, .bool dir, .int .i64 size, .slice Ac nc cc] 111) = w9 at hq9 hb9 hR9 hT9 ⊢
              obtain ⟨bx, hbxx⟩ : ∃ x, x = wp.heap.size := ⟨_, rfl⟩
              rw [← hbxx] at hq9 hVk hbx ⊢
              have hl9 : bx < w9.heap.size := (Array.getElem?_eq_some_iff.1 hq9).1
              clear hRk hTk hb9 hst z0 z1 z2 z3 hbe hbl hbxx hEk
              obtain ⟨p, hp⟩ : ∃ p, p = ahead ++ name := ⟨_, rfl⟩
              rw [← hp]
              have hps : p.size ≤ 50000 := by rw [hp, ByteArray.size_append]; omega
              replace hp := Lib.hid hp
              obtain ⟨x0, x1, x2, x3⟩ : w9.cell? ⟨bx, 0, none⟩ = some (.string name) ∧ w9.cell? ⟨bx, 1, none⟩ = some (.bool dir) ∧ w9.cell? ⟨bx, 2, none⟩ = some (.int .i64 size) ∧ w9.cell? ⟨bx, 3, none⟩ = some (.slice Ac nc cc) := ⟨hcell hq9 rfl, hcell hq9 rfl, hcell hq9 rfl, hcell hq9 rfl⟩
              obtain ⟨y0, y1, y2, y3, y4⟩ := hR9.cells
              have yz := hR9.frozen 4
              cases dir with
              | true =>
                --D1
                obtain ⟨Ao, co, rfl⟩ := Owns.form hR9.own
                have hol : sk.out.length ≤ 1000000000 := by have := hfk.out.2.2.2; have := hfk.out.1; omega
                have hone : chunks.length = 1 := entMay_dir hmx.out rfl
                obtain ⟨c0, rfl⟩ : ∃ c0, chunks = [c0] := by match chunks, hone with | [c], _ => exact ⟨c, rfl⟩
                have hown9 := hR9.own
                have hbs9 := hR9.lt.2.2.2.2.2.2
                have hbr := hR9.lt.1
                have hRA := hR9.below ((Below.refl _ w9).alloc (Nat.le_refl _) (.cells #[.string p, .bool true, .string ⟨#[]⟩] 39))
                replace hR9 := Lib.hid hR9
                replace hT9 := Lib.hid hT9
                replace hRA := Lib.hid hRA
                go_upto_region 11 with (at_builtin; go_must (refine Elem.wpList_one fileE rfl (.tmp 61) (.tmp 64) rfl bs _ sk.out rfl _ _ (⟨p, true, ⟨#[]⟩⟩ : FileX) rfl (Owns.alloc hown9 _) (fun j u hu => (newCell _ _ _ _ _).trans (by rcases j with _ | _ | _ | j <;> simp [fileE, fileCells] at hu <;> subst hu <;> rfl)) hol (by simp; omega) ?_); intro v' w' hown' hg' hat'; obtain ⟨A5, c5, rfl⟩ := Owns.form hown'; have hBx : Below bs _ w' := (Below.refl bs _).grown hg' (by simp; omega) (fun i hi => (Owns.within hRA.out.own hi).1); have x4 := (hBx.cell (p := ⟨br, 4, none⟩) hbr).trans hRA.out.cells.2.2.2.2; have xz := (hBx.frozen (p := ⟨br, 4, none⟩) hbr).trans (hRA.out.frozen 4))
                have hRB := hRA.out.app hown' hg' (hRA.out.cnt.kept hg' (fun e => by have := (Owns.within hRA.out.own e.symm).1; have := hRA.out.lt; omega))
                have hTA : RdT br nb w9 (w'.setCell ⟨br, 4, none⟩ (.slice A5 (sk.out ++ [(⟨p, true, ⟨#[]⟩⟩ : FileX)]).length c5)) (.slice Ao sk.out.length co) (.slice A5 (sk.out ++ [(⟨p, true, ⟨#[]⟩⟩ : FileX)]).length c5) :=
                  ((RdT.of ((Below.refl _ w9).alloc (Nat.le_refl _) _)).trans (RdT.app hg' hat')).trans (RdT.set 4 _)
                have hlo : (sk.out ++ [(⟨p, true, ⟨#[]⟩⟩ : FileX)]).length = sk.out.length + 1 := by simp
                rw [hlo] at hRB hTA
                clear hBx x4 xz hg' hat' hown' hRA y0 y1 y2 y3 y4 yz hown9 hbs9 hlo
                generalize w'.setCell ⟨br, 4, none⟩ (.slice A5 (sk.out.length + 1) c5) = wB at hRB hTA ⊢
                have x3 := hcell ((hTA.block bx hl9 (by omega) (by omega) (fun e => by have := hVk bx e; omega)).trans hq9) (o := 3) rfl
                have hTB := hT9.out.trans hTA
                have hn1 : nc = 1 := ((hE4.rd hTB hBr.1 hBr.2 hVo1.out).str hx.out).1.symm
                subst hn1
                obtain ⟨bc, oc, c0', e9, hbc, hxc, z0⟩ := ((hE4.rd hTB hBr.1 hBr.2 hVo1.out).str hx.out).str (i := 0) (Nat.one_pos)
                dsimp only at e9 hxc
                rw [Nat.add_zero] at z0
                subst e9
                simp only [List.getElem?_cons_zero, Option.some.injEq] at hxc
                subst hxc
                have hc32 := hcs.out c0 (by simp)
                have hfB : fits 20000000 40000 1000 ⟨sk.left, sk.needs, sk.out ++ [(⟨p, true, ⟨#[]⟩⟩ : FileX)]⟩ 0 (p ++ slashS) := by
                  obtain ⟨f1, f2, f3, f4⟩ := hfk.out
                  refine ⟨f1, ?_, ?_, ?_⟩
                  · simp only; omega
                  · rw [ByteArray.size_append, hp.out, ByteArray.size_append]
                    have : slashS.size = 1 := rfl
                    simp only; omega
                  · simp only [List.length_append, List.length_cons, List.length_nil]; omega
                have hrec := ih.out c0 (p ++ slashS) ⟨sk.left, sk.needs, sk.out ++ [(⟨p, true, ⟨#[]⟩⟩ : FileX)]⟩ (.slice A5 (sk.out.length + 1) c5) wB (by omega) hRB hfB (by have := hlk.out; show sk.left < (f : Int); omega)
                have hstep : Hid (dirF rdM C whole (f + 1) d ahead s = if (dirF rdM C whole f c0 (p ++ slashS) ⟨sk.left, sk.needs, sk.out ++ [(⟨p, true, ⟨#[]⟩⟩ : FileX)]⟩).1 = 0 then entsF (dirF rdM C whole f) C whole ahead (l.drop (k + 1)) (dirF rdM C whole f c0 (p ++ slashS) ⟨sk.left, sk.needs, sk.out ++ [(⟨p, true, ⟨#[]⟩⟩ : FileX)]⟩).2 else dirF rdM C whole f c0 (p ++ slashS) ⟨sk.left, sk.needs, sk.out ++ [(⟨p, true, ⟨#[]⟩⟩ : FileX)]⟩) := by
                  unfold Hid
                  rw [hqk.out, hdr.out, entsF, if_pos rfl, hp.out]
                  rfl
                have hgo := dirF_goes rdM C whole (fun b x hx => entMay_few (rdNode_may x hx)) f c0 (p ++ slashS) ⟨sk.left, sk.needs, sk.out ++ [(⟨p, true, ⟨#[]⟩⟩ : FileX)]⟩ hfk.out.1
                generalize dirF rdM C whole f c0 (p ++ slashS) ⟨sk.left, sk.needs, sk.out ++ [(⟨p, true, ⟨#[]⟩⟩ : FileX)]⟩ = q at hrec hstep hgo
                replace hTB := Lib.hid hTB
                replace hgo := Lib.hid hgo
                clear hRB hTA hfB
                go_wp2_with fail
                refine hrec.mono ?_
                rintro e wz (⟨h0, rfl, V2, hRz, hTz⟩ | ⟨h0, rfl, V2, hTz⟩)
                · have hs' : Hid (dirF rdM C whole (f + 1) d ahead s = entsF (dirF rdM C whole f) C whole ahead (l.drop (k + 1)) q.2) := by unfold Hid; rw [hstep.out, if_pos h0]
                  obtain ⟨g1, g2, g3, g4⟩ := hgo.out h0
                  have hf2 : Hid (fits 20000001 40000 1000 q.2 (L.length - (k + 1)) ahead) := by
                    obtain ⟨f1, f2, f3, f4⟩ := hfk.out
                    simp only [List.length_append, List.length_cons, List.length_nil] at g2 g3 g4
                    refine ⟨g1, ?_, ?_, ?_⟩ <;> omega
                  have hl2 : Hid (q.2.left + (L.length - (k + 1) : Nat) ≤ s.left) := by
                    have := hlk.out
                    simp only at g2
                    unfold Hid
                    omega
                  replace h0 := Lib.hid h0
                  replace hRz := Lib.hid hRz
                  have hTz' := Lib.hid (hTB.out.trans hTz)
                  clear hTz g1 g2 g3 g4 hrec z0 x3 x0 x1 x2 hq9
                  go_wp2_with fail
                  go_roundw
                  case rel => exact ⟨k + 1, q.2, V2, by omega, by go_num, hs', hRz, hTz', hf2, hl2⟩
                  case measure => simp [intOf]; omega
                · unfold thrown
                  go_wp2_with fail
                  refine ⟨rfl, ?_⟩
                  rw [hstep.out, if_neg h0]
                  exact Or.inr ⟨h0, rfl, V2, (hT4.trans hTB.out).trans hTz⟩
                --endD1
              | false =>
                --D2
                obtain rfl : chunks.length = nc := ((hE4.rd hT9 hBr.1 hBr.2 hVo1.out).str hx.out).1
                have hR9' : RdAt C w9 br mb nb bs N whole Vk ⟨sk.left, sk.needs ++ chunks.take 0, sk.out⟩ := by simpa using hR9
                clear hR9
                have hfew := entMay_few hmx.out
                dsimp only at hfew
                go_wp2_with fail
                go_loopw [12, 79] (fun _ ti wr => ∃ j : Nat, j ≤ chunks.length ∧ ti = .int .i64 j ∧ Hid (RdAt C wr br mb nb bs N whole Vk ⟨sk.left, sk.needs ++ chunks.take j, sk.out⟩) ∧ Hid (RdT br nb w9 wr Vk Vk)) (fun _ ti _ => chunks.length - (intOf ti).toNat)
                case atStart => exact ⟨0, Nat.zero_le _, rfl, Lib.hid hR9', Lib.hid (RdT.refl _ _ _ _)⟩
                case round =>
                  clear hR9' y0 y1 y2 y3 y4 yz
                  obtain ⟨j, hj, rfl, hRj, hTj⟩ := hrel
                  obtain ⟨wi, rfl⟩ : ∃ x : World, x = wr := ⟨_, rfl⟩
                  obtain ⟨y0, y1, y2, y3, y4⟩ := hRj.out.cells
                  have hT9j := hT9.trans hTj.out
                  by_cases hlj : j < chunks.length
                  · obtain ⟨bc, oc, ci, rfl, hbc, hxc, z0⟩ := ((hE4.rd hT9j hBr.1 hBr.2 hVo1.out).str hx.out).str hlj
                    have hci : ci.size ≤ maxLen := by have := hcs.out ci (List.mem_of_getElem? hxc); simp only [maxLen]; omega
                    have htk : Hid (sk.needs ++ chunks.take (j + 1) = (sk.needs ++ chunks.take j) ++ [ci]) := by
                      unfold Hid
                      rw [List.take_add_one, hxc, List.append_assoc]
                      rfl
                    have hcnt := hRj.out.cnt
                    have hcl : (sk.needs ++ chunks.take j).length < 1000000000 := by
                      obtain ⟨f1, f2, f3, f4⟩ := hfk.out
                      simp only [List.length_append, List.length_take]
                      omega
                    replace hxc := Lib.hid hxc
                    dsimp only at hcnt
                    replace hT9j := Lib.hid hT9j
                    go_wp2_with (first
                      | (at_lookup; go_must (refine wpList_cnt_lookup _ rfl _ _ rfl nb _ rfl hcnt ci rfl hci ?_); intro c1 hc9 hc1)
                      | (at_mapUpdate; go_must (refine wpList_cnt_update _ rfl _ _ _ rfl nb _ rfl hcnt hcl ci rfl hci c1 hc1 rfl ?_); intro w6 hcnt6 hg6))
                    have hR6 := Lib.hid (hRj.out.count hcnt6 hg6)
                    rw [← htk.out] at hR6
                    have hT6 := Lib.hid (hTj.out.trans (RdT.count (br := br) (V := Vk) hg6))
                    go_roundw
                    case rel => exact ⟨j + 1, by omega, by go_num, hR6, hT6⟩
                    case measure => simp [intOf]; omega
                  · obtain rfl : j = chunks.length := by omega
                    rw [List.take_length] at hRj
                    have hx9 := (hTj.out.block bx hl9 (by omega) (by omega) (fun e => by have := hVk bx e; omega)).trans hq9
                    obtain ⟨x0, x1, x2, x3⟩ : wi.cell? ⟨bx, 0, none⟩ = some (.string name) ∧ wi.cell? ⟨bx, 1, none⟩ = some (.bool false) ∧ wi.cell? ⟨bx, 2, none⟩ = some (.int .i64 size) ∧ wi.cell? ⟨bx, 3, none⟩ = some (.slice Ac chunks.length cc) := ⟨hcell hx9 rfl, hcell hx9 rfl, hcell hx9 rfl, hcell hx9 rfl⟩
                    have hsti := ((hE4.rd hT9j hBr.1 hBr.2 hVo1.out).str hx.out)
                    replace hT9j := Lib.hid hT9j
                    have hfc : fits 20000001 40000 1000 ⟨sk.left, sk.needs ++ chunks, sk.out⟩ (L.length - (k + 1)) ahead := by
                      obtain ⟨f1, f2, f3, f4⟩ := hfk.out
                      refine ⟨f1, ?_, ?_, ?_⟩
                      · simp only [List.length_append]; omega
                      · simp only; omega
                      · simp only; omega
                    cases whole with
                    | false =>
                      have hs' : Hid (dirF rdM C false (f + 1) d ahead s = entsF (dirF rdM C false f) C false ahead (l.drop (k + 1)) ⟨sk.left, sk.needs ++ chunks, sk.out⟩) := by
                        unfold Hid
                        rw [hqk.out, hdr.out, entsF]
                        rfl
                      have hl2 : Hid ((⟨sk.left, sk.needs ++ chunks, sk.out⟩ : DSt).left + (L.length - (k + 1) : Nat) ≤ s.left) := by
                        have := hlk.out
                        unfold Hid
                        simp only
                        omega
                      replace hfc := Lib.hid hfc
                      go_wp2_with fail
                      go_roundw
                      case rel => exact ⟨k + 1, ⟨sk.left, sk.needs ++ chunks, sk.out⟩, Vk, by omega, by go_num, hs', hRj, hT9j, hfc, hl2⟩
                      case measure => simp [intOf]; omega
                    | true =>
                      have hol : sk.out.length ≤ 1000 := by have := hfk.out.2.2.2; have := hfk.out.1; omega
                      have hfi := hfile rfl wi Vk ⟨sk.left, sk.needs ++ chunks, sk.out⟩ (⟨name, false, size, chunks⟩, Ac, chunks.length, cc) p hRj.out hol hsti hcs.out
                      dsimp only at hfi
                      have hstep : Hid (dirF rdM C true (f + 1) d ahead s = if (findAll C size chunks ⟨#[]⟩).1 = 0 then entsF (dirF rdM C true f) C true ahead (l.drop (k + 1)) ⟨sk.left, sk.needs ++ chunks, sk.out ++ [⟨p, false, (findAll C size chunks ⟨#[]⟩).2⟩]⟩ else ((findAll C size chunks ⟨#[]⟩).1, sk)) := by
                        unfold Hid
                        rw [hqk.out, hdr.out, entsF, hp.out]
                        rfl
                      generalize findAll C size chunks ⟨#[]⟩ = q at hfi hstep
                      obtain ⟨qn, qd⟩ := q
                      dsimp only at hfi hstep
                      replace hfc := Lib.hid hfc
                      clear hsti
                      go_wp2_with fail
                      refine hfi.mono ?_
                      rintro e wz (⟨h0, rfl, V2, hRz, hTz⟩ | ⟨h0, rfl, V2, hTz⟩)
                      · dsimp only at h0
                        have hs' : Hid (dirF rdM C true (f + 1) d ahead s = entsF (dirF rdM C true f) C true ahead (l.drop (k + 1)) ⟨sk.left, sk.needs ++ chunks, sk.out ++ [⟨p, false, qd⟩]⟩) := by unfold Hid; rw [hstep.out, if_pos h0]
                        have hf2 : Hid (fits 20000001 40000 1000 ⟨sk.left, sk.needs ++ chunks, sk.out ++ [(⟨p, false, qd⟩ : FileX)]⟩ (L.length - (k + 1)) ahead) := by
                          obtain ⟨f1, f2, f3, f4⟩ := hfc.out
                          have h4 := hfk.out.2.2.2
                          refine ⟨f1, f2, f3, ?_⟩
                          simp only [List.length_append, List.length_cons, List.length_nil]
                          omega
                        have hl2 : Hid ((⟨sk.left, sk.needs ++ chunks, sk.out ++ [(⟨p, false, qd⟩ : FileX)]⟩ : DSt).left + (L.length - (k + 1) : Nat) ≤ s.left) := by
                          have := hlk.out
                          unfold Hid
                          simp only
                          omega
                        dsimp only at hRz
                        replace h0 := Lib.hid h0
                        replace hRz := Lib.hid hRz
                        have hTz' := Lib.hid (hT9j.out.trans hTz)
                        clear hTz
                        go_wp2_with fail
                        go_roundw
                        case rel => exact ⟨k + 1, ⟨sk.left, sk.needs ++ chunks, sk.out ++ [⟨p, false, qd⟩]⟩, V2, by omega, by go_num, hs', hRz, hTz', hf2, hl2⟩
                        case measure => simp [intOf]; omega
                      · dsimp only at h0
                        unfold thrown
                        go_wp2_with fail
                        refine ⟨rfl, ?_⟩
                        rw [hstep.out, if_neg h0]
                        exact Or.inr ⟨h0, rfl, V2, (hT4.trans hT9j.out).trans hTz⟩
                --endD2
            · obtain rfl : k = L.length := by omega
              have hend : Hid (dirF rdM C whole (f + 1) d ahead s = (0, sk)) := by
                unfold Hid
                rw [hqk.out, List.drop_eq_nil_of_le (by rw [← hL'.out]; simp)]
                rfl
              go_wp2_with fail
              go_end0
              rw [hend.out]
              exact Or.inl ⟨rfl, rfl, Vk, hRk.out, hT4.trans hTk.out⟩
      · have h1 : (z == 0) = false := by simpa using hz
        have h2 : (z != 0) = true := by simpa using hz
        rw [if_neg hz] at hq
        replace hz := Lib.hid hz
        go_wp2_with fail
        refine (walk_form_bad _).mono ?_
        rintro e w3 ⟨rfl, hw⟩
        obtain rfl := hw.symm
        unfold thrown
        go_wp2_with fail
        refine ⟨rfl, ?_⟩
        rw [hq.out]
        exact Or.inr ⟨by simp, rfl, V, RdT.of hbw⟩
end Go.Proofs.YtdhlmhkabckbaaaGreatDoor
