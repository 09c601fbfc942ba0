/-
  Package node: what an entry may be, if it is known what its name may be.
-/
import Derived.Test.YtdhlmhkabckbaaaGreatDoorStrs
import Derived.Test.YtdhlmhkabckbaaaGreatDoorLayI
import Derived.Shelf.Strings.Search3
import Derived.Deep.DeepCutAuto
import Derived.Test.YtdhlmhkabckbaaaGreatDoorKrip
namespace Go.Proofs.YtdhlmhkabckbaaaGreatDoor
open Go.RowKit

/-- An entry of a directory. -/
structure Ent where
  name : ByteArray
  dir : Bool
  size : Int
  chunks : List ByteArray

def not32 (c : ByteArray) : Bool := !decide ((c.size : Int) = 32)
theorem ent_may1 (c : ByteArray) (w : World) : Calls Tryz.prog 203 #[.string c] w fun e w' => e = .returned (.bool (not32 c)) ∧ w' = w := by
  go_enter Tryz.func203, Tryz.ntmps203
  go_wp2_with fail
  go_ret
  exact ⟨ret_bool (by unfold not32; grind), rfl⟩

def idxNot : List ByteArray → Int → Int
  | [], _ => -1
  | c :: l, k => if not32 c then k else idxNot l (k + 1)
theorem idxNot_neg : ∀ (l : List ByteArray) (k : Int), 0 ≤ k → (0 ≤ idxNot l k ↔ l.any not32 = true)
  | [], k, _ => by simp [idxNot]
  | c :: l, k, hk => by
    unfold idxNot
    rw [List.any_cons]
    cases not32 c with
    | true => simp [hk]
    | false => simpa using idxNot_neg l (k + 1) (by omega)

set_option maxRecDepth 100000 in
theorem idxFunc_not (A : Option Addr) (n c B : Nat) (l : List ByteArray) (w : World) (hl : StrsAt w B A n l) :
    Calls Tryz.prog 102 #[.slice A n c, .func (.func 203) #[] #[]] w fun e w' => e = .returned (.int .i64 (idxNot l 0)) ∧ w' = w := by
  have hn := Lib.hid hl.1
  have hnn := hl.2.1
  go_enter Tryz.func102, Tryz.ntmps102
  go_wp2_with fail
  go_loopw [5, 8] (fun _ ti wr => ∃ k : Nat, k ≤ n ∧ ti = .int .i64 k ∧ Hid (idxNot l 0 = idxNot (l.drop k) k) ∧ wr = w) (fun _ ti _ => n - (intOf ti).toNat)
  case atStart => exact ⟨0, Nat.zero_le _, rfl, rfl, rfl⟩
  case round =>
    obtain ⟨k, hk, rfl, hgo, rfl⟩ := hrel
    by_cases hlt : k < n
    · obtain ⟨b, off, x, rfl, hb, hx, c0⟩ := hl.str hlt
      have hd : Hid (idxNot (l.drop k) k = if not32 x then (k : Int) else idxNot (l.drop (k + 1)) ((k : Int) + 1)) := by unfold Hid; rw [drop_cons hx]; rfl
      have hi1 : (k : Int) < (n : Int) := by omega
      clear hx
      have hcl := ent_may1 x wr
      cases hbx : not32 x with
      | true =>
        rw [hbx] at hcl hd
        replace hbx := Lib.hid hbx
        go_wp2_with fail
        refine hcl.mono ?_
        rintro e w1 ⟨rfl, rfl⟩
        go_wp2_with fail
        go_ret
        exact ⟨ret_int (by rw [hgo.out, hd.out]; rfl), rfl⟩
      | false =>
        rw [hbx] at hcl hd
        replace hbx := Lib.hid hbx
        go_wp2_with fail
        refine hcl.mono ?_
        rintro e w1 ⟨rfl, rfl⟩
        go_wp2_with fail
        go_roundw
        case rel => exact ⟨k + 1, by omega, by go_num, by rw [Hid, hgo.out, hd.out]; simp, trivial⟩
        case measure => simp [intOf]; omega
    · obtain rfl : k = n := by omega
      have hd : Hid (idxNot (l.drop k) k = -1) := by unfold Hid; rw [List.drop_eq_nil_of_le (by rw [hn.out]; exact Nat.le_refl _)]; rfl
      go_wp2_with fail
      go_ret
      exact ⟨ret_int (by rw [hgo.out, hd.out]), rfl⟩
theorem containsFunc_not (A : Option Addr) (n c B : Nat) (l : List ByteArray) (w : World) (hl : StrsAt w B A n l) :
    Calls Tryz.prog 202 #[.slice A n c, .func (.func 203) #[] #[]] w fun e w' => e = .returned (.bool (l.any not32)) ∧ w' = w := by
  have hi := idxFunc_not A n c B l w hl
  have hb : Hid (decide (0 ≤ idxNot l 0) = l.any not32) := by
    have := idxNot_neg l 0 (Int.le_refl _)
    unfold Hid
    grind
  generalize idxNot l 0 = i at hi hb
  go_enter Tryz.func202, Tryz.ntmps202
  go_wp2_with fail
  refine hi.mono ?_
  rintro e w1 ⟨rfl, rfl⟩
  go_wp2_with fail
  go_ret
  exact ⟨ret_bool hb.out, rfl⟩

theorem has_slash (s : ByteArray) (w : World) :
    Calls Tryz.prog 201 #[.string s, .string ⟨#[47]⟩] w fun e w' => e = .returned (.bool (decide (0 ≤ Lib.indexByte s.data.toList 47))) ∧ w' = w :=
  Any.strings_Contains_one Tryz.sContains s 47 w
end Go.Proofs.YtdhlmhkabckbaaaGreatDoor
/-
  Package node: what an entry may be.
-/
namespace Go.Proofs.YtdhlmhkabckbaaaGreatDoor
open Go.RowKit

def slashF (s : ByteArray) : Bool := decide (0 ≤ Lib.indexByte s.data.toList 47)
def formF (e : Ent) : Bool := if e.dir then decide (e.size = 0) && decide ((e.chunks.length : Int) = 1) else decide (0 ≤ e.size) && decide (e.size ≤ 16384) && decide ((e.chunks.length : Int) ≤ e.size) && decide (e.size ≤ 1024 * (e.chunks.length : Int))
def entMay (P : ByteArray → Bool) (e : Ent) : Bool := P e.name && !slashF e.name && !e.chunks.any not32 && formF e

set_option maxRecDepth 100000 in
set_option maxHeartbeats 2000000 in
theorem entry_may (P : ByteArray → Bool) (name : ByteArray) (dir : Bool) (size : Int) (chunks : List ByteArray) (A : Option Addr) (n c : Nat) (w : World) (hL : StrsAt w w.heap.size A n chunks) (hn : n ≤ 1000000)
    (hP : ∀ W, Calls Tryz.prog 66 #[.string name] W fun e w' => e = .returned (.bool (P name)) ∧ Below W.heap.size W w') :
    Calls Tryz.prog 168 #[.agg #[.string name, .bool dir, .int .i64 size, .slice A n c]] w fun e w' => e = .returned (.bool (entMay P ⟨name, dir, size, chunks⟩)) ∧ Below w.heap.size w w' := by
  have hq := heap_alloc_new w (.cells #[.string name, .bool dir, .int .i64 size, .slice A n c] 111)
  have hb0 : Below w.heap.size w (w.alloc (.cells #[.string name, .bool dir, .int .i64 size, .slice A n c] 111)) := (Below.refl _ w).alloc (Nat.le_refl _) _
  have hl := Lib.hid hL.1
  replace hP := Lib.hid hP
  replace hL := Lib.hid hL
  go_enter Tryz.func168, Tryz.ntmps168
  go_upto_region 1 with fail
  generalize w.alloc (.cells #[.string name, .bool dir, .int .i64 size, .slice A n c] 111) = w0 at hq hb0 ⊢
  have z0 : w0.cell? ⟨w.heap.size, 0, none⟩ = some (.string name) := (cell_of_row w0 _ 0 _ _ _ hq).trans rfl
  go_wp2_with fail
  refine (hP.out w0).mono ?_
  rintro e w1 ⟨rfl, hb1⟩
  have hq1 := (hb1.block _ (Array.getElem?_eq_some_iff.1 hq).1).trans hq
  have hbw := hb0.trans (hb1.mono hb0.size)
  have hL1 := Lib.hid (hL.out.to hbw)
  clear hq z0 hb0 hb1 hP hL
  have z0 : w1.cell? ⟨w.heap.size, 0, none⟩ = some (.string name) := (cell_of_row w1 _ 0 _ _ _ hq1).trans rfl
  have z1 : w1.cell? ⟨w.heap.size, 1, none⟩ = some (.bool dir) := (cell_of_row w1 _ 1 _ _ _ hq1).trans rfl
  have z2 : w1.cell? ⟨w.heap.size, 2, none⟩ = some (.int .i64 size) := (cell_of_row w1 _ 2 _ _ _ hq1).trans rfl
  have z3 : w1.cell? ⟨w.heap.size, 3, none⟩ = some (.slice A n c) := (cell_of_row w1 _ 3 _ _ _ hq1).trans rfl
  have hs := has_slash name w1
  have hc := containsFunc_not A n c w1.heap.size chunks w1 hL1.out
  have hE : Hid (entMay P ⟨name, dir, size, chunks⟩ = (P name && !slashF name && !chunks.any not32 && formF ⟨name, dir, size, chunks⟩)) := rfl
  rw [show decide (0 ≤ Lib.indexByte name.data.toList 47) = slashF name from rfl] at hs
  clear hq1 hL1
  cases hp : P name with
  | false =>
    rw [hp] at hE
    replace hp := Lib.hid hp
    go_wp2_with fail
    go_ret
    exact ⟨ret_bool (by rw [hE.out]; rfl), hbw⟩
  | true =>
    rw [hp] at hE
    replace hp := Lib.hid hp
    cases hsl : slashF name with
    | true =>
      rw [hsl] at hE hs
      replace hsl := Lib.hid hsl
      go_wp2_with fail
      refine hs.mono ?_
      rintro e w2 ⟨rfl, rfl⟩
      go_wp2_with fail
      go_ret
      exact ⟨ret_bool (by rw [hE.out]; rfl), hbw⟩
    | false =>
      rw [hsl] at hE hs
      replace hsl := Lib.hid hsl
      go_wp2_with fail
      refine hs.mono ?_
      rintro e w2 ⟨rfl, rfl⟩
      cases hch : chunks.any not32 with
      | true =>
        rw [hch] at hE hc
        replace hch := Lib.hid hch
        go_wp2_with fail
        refine hc.mono ?_
        rintro e w2 ⟨rfl, rfl⟩
        go_wp2_with fail
        go_ret
        exact ⟨ret_bool (by rw [hE.out]; rfl), hbw⟩
      | false =>
        rw [hch] at hE hc
        replace hch := Lib.hid hch
        go_wp2_with fail
        refine hc.mono ?_
        rintro e w2 ⟨rfl, rfl⟩
        cases dir with
        | true =>
          go_wp2_with fail
          all_goals (go_ret; exact ⟨ret_bool (by rw [hE.out]; unfold formF; rw [hl.out]; grind), hbw⟩)
        | false =>
          go_wp2_with fail
          all_goals (go_ret; exact ⟨ret_bool (by rw [hE.out]; unfold formF; rw [hl.out]; grind), hbw⟩)
end Go.Proofs.YtdhlmhkabckbaaaGreatDoor

/-
  node.May over a row of entries.
-/
namespace Go.Proofs.YtdhlmhkabckbaaaGreatDoor
open Go.RowKit

/-- An entry, and where its chunks lie. -/
abbrev EntX := Ent × (Option Addr × Nat × Nat)
def entCells (x : EntX) : List Value := [.string x.1.name, .bool x.1.dir, .int .i64 x.1.size, .slice x.2.1 x.2.2.1 x.2.2.2]
structure EntsAt (w : World) (B : Nat) (A : Option Addr) (n : Nat) (L : List EntX) : Prop where
  row : RowAt 4 entCells w B A n L
  strs : ∀ x ∈ L, StrsAt w B x.2.1 x.2.2.1 x.1.chunks ∧ x.2.2.1 ≤ 1000000
theorem EntsAt.to {w w' : World} {A : Option Addr} {n : Nat} {L : List EntX} (h : EntsAt w w.heap.size A n L) (hb : Below w.heap.size w w') : EntsAt w' w'.heap.size A n L :=
  ⟨h.row.to hb, fun x hx => ⟨(h.strs x hx).1.to hb, (h.strs x hx).2⟩⟩
theorem EntsAt.at {w : World} {B : Nat} {A : Option Addr} {n : Nat} {L : List EntX} (h : EntsAt w B A n L) {i : Nat} (hi : i < n) :
    ∃ b off x, A = some ⟨b, off, none⟩ ∧ b < B ∧ L[i]? = some x ∧ w.cell? ⟨b, off + i * 4, none⟩ = some (.string x.1.name) ∧ w.cell? ⟨b, off + i * 4 + 1, none⟩ = some (.bool x.1.dir) ∧ w.cell? ⟨b, off + i * 4 + 2, none⟩ = some (.int .i64 x.1.size) ∧
      w.cell? ⟨b, off + i * 4 + 3, none⟩ = some (.slice x.2.1 x.2.2.1 x.2.2.2) ∧ StrsAt w B x.2.1 x.2.2.1 x.1.chunks ∧ x.2.2.1 ≤ 1000000 := by
  obtain ⟨hl, _, hc⟩ := h.row
  obtain ⟨b, off, e, hb, hc⟩ := hc (by omega)
  have hx : L[i]? = some (L[i]'(by omega)) := List.getElem?_eq_getElem (by omega)
  have hs := h.strs _ (List.mem_of_getElem? hx)
  exact ⟨b, off, _, e, hb, hx, hc i _ hx 0 _ rfl, hc i _ hx 1 _ rfl, hc i _ hx 2 _ rfl, hc i _ hx 3 _ rfl, hs.1, hs.2⟩

def mayNgo (P : ByteArray → Bool) : Option ByteArray → List Ent → Bool
  | _, [] => true
  | o, e :: r => entMay P e && (match o with | some p => sLt p e.name | none => true) && mayNgo P (some e.name) r
def mayN (P : ByteArray → Bool) (l : List Ent) : Bool := mayNgo P none l && decide (l.length ≤ 256)
def prevEnt (l : List Ent) (k : Nat) : Option ByteArray := match k with
  | 0 => none
  | k + 1 => (l[k]?).map Ent.name

set_option maxRecDepth 100000 in
set_option maxHeartbeats 4000000 in
theorem node_May (P : ByteArray → Bool) (A : Option Addr) (n c : Nat) (L : List EntX) (w : World) (h : EntsAt w w.heap.size A n L)
    (hP : ∀ x ∈ L, ∀ W, Calls Tryz.prog 66 #[.string x.1.name] W fun e w' => e = .returned (.bool (P x.1.name)) ∧ Below W.heap.size W w') :
    Calls Tryz.prog 109 #[.slice A n c] w fun e w' => e = .returned (.bool (mayN P (L.map Prod.fst))) ∧ Below w.heap.size w w' := by
  have hl := Lib.hid h.row.1
  have hnn := h.row.2.1
  replace hP := Lib.hid hP
  go_enter Tryz.func109, Tryz.ntmps109
  go_wp2_with fail
  go_loopw [3, 4, 7] (fun _ _ ti wr => ∃ k : Nat, k ≤ n ∧ ti = .int .i64 k ∧ Hid (mayNgo P none (L.map Prod.fst) = mayNgo P (prevEnt (L.map Prod.fst) k) ((L.map Prod.fst).drop k)) ∧ Below w.heap.size w wr) (fun _ _ ti _ => n - (intOf ti).toNat)
  case atStart => exact ⟨0, Nat.zero_le _, rfl, rfl, Below.refl _ _⟩
  case round =>
    obtain ⟨k, hk, rfl, hgo, hbw⟩ := hrel
    obtain ⟨wp, rfl⟩ : ∃ x : World, x = wr := ⟨_, rfl⟩
    by_cases hlt : k < n
    · obtain ⟨b, off, x, rfl, hb, hx, z0, z1, z2, z3, hst, hch⟩ := (h.to hbw).at hlt
      obtain ⟨⟨name, dir, size, chunks⟩, Ac, nc, cc⟩ := x
      dsimp only at z0 z1 z2 z3 hst hch
      have hPx := hP.out _ (List.mem_of_getElem? hx)
      dsimp only at hPx
      have hi1 : (k : Int) < (n : Int) := by omega
      replace hst := Lib.hid hst
      replace hPx := Lib.hid hPx
      replace hx := Lib.hid hx
      go_upto_region 4 with fail
      have hq4 := heap_alloc_new wp (.cells #[.string name, .bool dir, .int .i64 size, .slice Ac nc cc] 111)
      have hbA : Below wp.heap.size wp (wp.alloc (.cells #[.string name, .bool dir, .int .i64 size, .slice Ac nc cc] 111)) := (Below.refl _ wp).alloc (Nat.le_refl _) _
      generalize wp.alloc (.cells #[.string name, .bool dir, .int .i64 size, .slice Ac nc cc] 111) = w4 at hq4 hbA ⊢
      have y0 : w4.cell? ⟨wp.heap.size, 0, none⟩ = some (.string name) := (cell_of_row w4 _ 0 _ _ _ hq4).trans rfl
      have y1 : w4.cell? ⟨wp.heap.size, 1, none⟩ = some (.bool dir) := (cell_of_row w4 _ 1 _ _ _ hq4).trans rfl
      have y2 : w4.cell? ⟨wp.heap.size, 2, none⟩ = some (.int .i64 size) := (cell_of_row w4 _ 2 _ _ _ hq4).trans rfl
      have y3 : w4.cell? ⟨wp.heap.size, 3, none⟩ = some (.slice Ac nc cc) := (cell_of_row w4 _ 3 _ _ _ hq4).trans rfl
      have l4 : wp.heap.size < w4.heap.size := (Array.getElem?_eq_some_iff.1 hq4).1
      have hst4 := Lib.hid (hst.out.to hbA)
      have hbw4 : Below w.heap.size w w4 := hbw.trans (hbA.mono hbw.size)
      have hdr : Hid (mayNgo P (prevEnt (L.map Prod.fst) k) ((L.map Prod.fst).drop k) = (entMay P ⟨name, dir, size, chunks⟩ && (match prevEnt (L.map Prod.fst) k with | some p => sLt p name | none => true) && mayNgo P (some name) ((L.map Prod.fst).drop (k + 1)))) := by
        unfold Hid
        rw [drop_cons (by rw [List.getElem?_map, hx.out]; rfl)]
        rfl
      have hpv : Hid (prevEnt (L.map Prod.fst) (k + 1) = some name) := by
        unfold Hid
        show ((L.map Prod.fst)[k]?).map Ent.name = some name
        rw [List.getElem?_map, hx.out]
        rfl
      have hEM := fun W (hW : Below w4.heap.size w4 W) => entry_may P name dir size chunks Ac nc cc W (hst4.out.to hW) hch hPx.out
      cases hM : entMay P ⟨name, dir, size, chunks⟩ with
      | false =>
        rw [hM] at hEM hdr
        have hfin : Hid (mayN P (L.map Prod.fst) = false) := by unfold Hid mayN; rw [hgo.out, hdr.out]; rfl
        replace hM := Lib.hid hM
        replace hEM := Lib.hid hEM
        clear z0 z1 z2 z3
        refine region_krip (fun W : World => Below w4.heap.size w4 W) (by kernel_rfl) ((Below.refl _ _).drew) ?_
        (refine kF.takeL (i := 0) (v := ?_) rfl (by kernel_rfl) (fun _ _ _ h => h) (Or.inl ⟨by rfl, ?_⟩) ?_
         rotate_left
         · (intro wS hSw; (try dsimp only at hSw); have hcS := fun b o (h : b < w4.heap.size) => hSw.cell (p := ⟨b, o, none⟩) h; go_simp; (try with_reducible rfl))
         try simp only [Act.put, List.setIfInBounds_toArray, List.set_cons_zero, List.set_cons_succ])
        (refine kF.lastL (j := 1) rfl (by kernel_rfl) (fun _ _ _ _ _ => Iff.rfl) (fun _ _ h1 h2 => below_S (Nat.le_refl _) h1 h2) (fun hSk K hK => ?_)
         (go_simp; refine (hEM.out _ hSk).mono ?_; rintro e m1 ⟨rfl, hb1⟩; have hS1 := hSk.trans (hb1.mono hSk.size))
         refine hK.out _ _ (below_S (Nat.le_refl _) hSk hb1) ?_
         clear hK K
         try simp only [Act.put, List.setIfInBounds_toArray, List.set_cons_zero, List.set_cons_succ])
        clear hSk
        (refine kF.takeL (i := 2) (v := ?_) rfl (by kernel_rfl) (fun _ _ _ h => h) (Or.inl ⟨by rfl, ?_⟩) ?_
         rotate_left
         · (intro wS hSw; (try dsimp only at hSw); have hcS := fun b o (h : b < w4.heap.size) => hSw.cell (p := ⟨b, o, none⟩) h; go_simp; (try with_reducible rfl))
         try simp only [Act.put, List.setIfInBounds_toArray, List.set_cons_zero, List.set_cons_succ])
        (refine kF.takeL (i := 3) (v := ?_) rfl (by kernel_rfl) (fun _ _ _ h => h) (Or.inl ⟨by rfl, ?_⟩) ?_
         rotate_left
         · (intro wS hSw; (try dsimp only at hSw); have hcS := fun b o (h : b < w4.heap.size) => hSw.cell (p := ⟨b, o, none⟩) h; go_simp; (try with_reducible rfl))
         try simp only [Act.put, List.setIfInBounds_toArray, List.set_cons_zero, List.set_cons_succ])
        (refine kF.takeL (i := 4) (v := undef) rfl (by kernel_rfl) (fun _ _ _ h => h) (Or.inr ⟨by rfl, rfl⟩) ?_
         try simp only [Act.put, List.setIfInBounds_toArray, List.set_cons_zero, List.set_cons_succ])
        (refine kF.takeL (i := 5) (v := undef) rfl (by kernel_rfl) (fun _ _ _ h => h) (Or.inr ⟨by rfl, rfl⟩) ?_
         try simp only [Act.put, List.setIfInBounds_toArray, List.set_cons_zero, List.set_cons_succ])
        (refine kF.takeL (i := 6) (v := undef) rfl (by kernel_rfl) (fun _ _ _ h => h) (Or.inr ⟨by rfl, rfl⟩) ?_
         try simp only [Act.put, List.setIfInBounds_toArray, List.set_cons_zero, List.set_cons_succ])
        (refine kF.takeL (i := 7) (v := undef) rfl (by kernel_rfl) (fun _ _ _ h => h) (Or.inr ⟨by rfl, rfl⟩) ?_
         try simp only [Act.put, List.setIfInBounds_toArray, List.set_cons_zero, List.set_cons_succ])
        (refine kF.takeL (i := 8) (v := undef) rfl (by kernel_rfl) (fun _ _ _ h => h) (Or.inr ⟨by rfl, rfl⟩) ?_
         try simp only [Act.put, List.setIfInBounds_toArray, List.set_cons_zero, List.set_cons_succ])
        (refine kF.takeL (i := 9) (v := undef) rfl (by kernel_rfl) (fun _ _ _ h => h) (Or.inr ⟨by rfl, rfl⟩) ?_
         try simp only [Act.put, List.setIfInBounds_toArray, List.set_cons_zero, List.set_cons_succ])
        (refine kF.takeL (i := 10) (v := undef) rfl (by kernel_rfl) (fun _ _ _ h => h) (Or.inr ⟨by rfl, rfl⟩) ?_
         try simp only [Act.put, List.setIfInBounds_toArray, List.set_cons_zero, List.set_cons_succ])
        (refine kF.takeL (i := 11) (v := undef) rfl (by kernel_rfl) (fun _ _ _ h => h) (Or.inr ⟨by rfl, rfl⟩) ?_
         try simp only [Act.put, List.setIfInBounds_toArray, List.set_cons_zero, List.set_cons_succ])
        (refine kF.takeL (i := 12) (v := undef) rfl (by kernel_rfl) (fun _ _ _ h => h) (Or.inr ⟨by rfl, rfl⟩) ?_
         try simp only [Act.put, List.setIfInBounds_toArray, List.set_cons_zero, List.set_cons_succ])
        (refine kF.takeL (i := 13) (v := undef) rfl (by kernel_rfl) (fun _ _ _ h => h) (Or.inr ⟨by rfl, rfl⟩) ?_
         try simp only [Act.put, List.setIfInBounds_toArray, List.set_cons_zero, List.set_cons_succ])
        (refine kF.takeL (i := 14) (v := undef) rfl (by kernel_rfl) (fun _ _ _ h => h) (Or.inr ⟨by rfl, rfl⟩) ?_
         try simp only [Act.put, List.setIfInBounds_toArray, List.set_cons_zero, List.set_cons_succ])
        (refine kF.takeL (i := 15) (v := undef) rfl (by kernel_rfl) (fun _ _ _ h => h) (Or.inr ⟨by rfl, rfl⟩) ?_
         try simp only [Act.put, List.setIfInBounds_toArray, List.set_cons_zero, List.set_cons_succ])
        (refine kF.takeL (i := 16) (v := undef) rfl (by kernel_rfl) (fun _ _ _ h => h) (Or.inr ⟨by rfl, rfl⟩) ?_
         try simp only [Act.put, List.setIfInBounds_toArray, List.set_cons_zero, List.set_cons_succ])
        (refine kF.takeL (i := 17) (v := ?_) rfl (by kernel_rfl) (fun _ _ _ h => h) (Or.inl ⟨by rfl, ?_⟩) ?_
         rotate_left
         · (intro wS hSw; (try dsimp only at hSw); have hcS := fun b o (h : b < w4.heap.size) => hSw.cell (p := ⟨b, o, none⟩) h; go_simp; (try with_reducible rfl))
         try simp only [Act.put, List.setIfInBounds_toArray, List.set_cons_zero, List.set_cons_succ])
        refine kF.done (by kernel_rfl) ?_
        go_wp2_with fail
        go_ret
        exact ⟨ret_bool hfin.out.symm, hbw4.trans (hS1.mono hbw4.size)⟩
      | true =>
        rw [hM] at hEM hdr
        replace hM := Lib.hid hM
        replace hEM := Lib.hid hEM
        rcases Nat.eq_zero_or_pos k with hk0 | hk0
        · subst hk0
          have hgo' : Hid (mayNgo P none (L.map Prod.fst) = mayNgo P (prevEnt (L.map Prod.fst) (0 + 1)) ((L.map Prod.fst).drop (0 + 1))) := by
            unfold Hid
            rw [hpv.out, hgo.out, hdr.out]
            rfl
          clear z0 z1 z2 z3
          refine region_krip (fun W : World => Below w4.heap.size w4 W) (by kernel_rfl) ((Below.refl _ _).drew) ?_
          (refine kF.takeL (i := 0) (v := ?_) rfl (by kernel_rfl) (fun _ _ _ h => h) (Or.inl ⟨by rfl, ?_⟩) ?_
           rotate_left
           · (intro wS hSw; (try dsimp only at hSw); have hcS := fun b o (h : b < w4.heap.size) => hSw.cell (p := ⟨b, o, none⟩) h; go_simp; (try with_reducible rfl))
           try simp only [Act.put, List.setIfInBounds_toArray, List.set_cons_zero, List.set_cons_succ])
          (refine kF.lastL (j := 1) rfl (by kernel_rfl) (fun _ _ _ _ _ => Iff.rfl) (fun _ _ h1 h2 => below_S (Nat.le_refl _) h1 h2) (fun hSk K hK => ?_)
           (go_simp; refine (hEM.out _ hSk).mono ?_; rintro e m1 ⟨rfl, hb1⟩; have hS1 := hSk.trans (hb1.mono hSk.size))
           refine hK.out _ _ (below_S (Nat.le_refl _) hSk hb1) ?_
           clear hK K
           try simp only [Act.put, List.setIfInBounds_toArray, List.set_cons_zero, List.set_cons_succ])
          clear hSk
          (refine kF.takeL (i := 2) (v := ?_) rfl (by kernel_rfl) (fun _ _ _ h => h) (Or.inl ⟨by rfl, ?_⟩) ?_
           rotate_left
           · (intro wS hSw; (try dsimp only at hSw); have hcS := fun b o (h : b < w4.heap.size) => hSw.cell (p := ⟨b, o, none⟩) h; go_simp; (try with_reducible rfl))
           try simp only [Act.put, List.setIfInBounds_toArray, List.set_cons_zero, List.set_cons_succ])
          (refine kF.takeL (i := 3) (v := ?_) rfl (by kernel_rfl) (fun _ _ _ h => h) (Or.inl ⟨by rfl, ?_⟩) ?_
           rotate_left
           · (intro wS hSw; (try dsimp only at hSw); have hcS := fun b o (h : b < w4.heap.size) => hSw.cell (p := ⟨b, o, none⟩) h; go_simp; (try with_reducible rfl))
           try simp only [Act.put, List.setIfInBounds_toArray, List.set_cons_zero, List.set_cons_succ])
          (refine kF.takeL (i := 4) (v := ?_) rfl (by kernel_rfl) (fun _ _ _ h => h) (Or.inl ⟨by rfl, ?_⟩) ?_
           rotate_left
           · (intro wS hSw; (try dsimp only at hSw); have hcS := fun b o (h : b < w4.heap.size) => hSw.cell (p := ⟨b, o, none⟩) h; go_simp; (try with_reducible rfl))
           try simp only [Act.put, List.setIfInBounds_toArray, List.set_cons_zero, List.set_cons_succ])
          (refine kF.takeL (i := 5) (v := ?_) rfl (by kernel_rfl) (fun _ _ _ h => h) (Or.inl ⟨by rfl, ?_⟩) ?_
           rotate_left
           · (intro wS hSw; (try dsimp only at hSw); have hcS := fun b o (h : b < w4.heap.size) => hSw.cell (p := ⟨b, o, none⟩) h; go_simp; (try with_reducible rfl))
           try simp only [Act.put, List.setIfInBounds_toArray, List.set_cons_zero, List.set_cons_succ])
          (refine kF.takeL (i := 6) (v := ?_) rfl (by kernel_rfl) (fun _ _ _ h => h) (Or.inl ⟨by rfl, ?_⟩) ?_
           rotate_left
           · (intro wS hSw; (try dsimp only at hSw); have hcS := fun b o (h : b < w4.heap.size) => hSw.cell (p := ⟨b, o, none⟩) h; go_simp; (try with_reducible rfl))
           try simp only [Act.put, List.setIfInBounds_toArray, List.set_cons_zero, List.set_cons_succ])
          (refine kF.takeL (i := 7) (v := undef) rfl (by kernel_rfl) (fun _ _ _ h => h) (Or.inr ⟨by rfl, rfl⟩) ?_
           try simp only [Act.put, List.setIfInBounds_toArray, List.set_cons_zero, List.set_cons_succ])
          (refine kF.takeL (i := 8) (v := undef) rfl (by kernel_rfl) (fun _ _ _ h => h) (Or.inr ⟨by rfl, rfl⟩) ?_
           try simp only [Act.put, List.setIfInBounds_toArray, List.set_cons_zero, List.set_cons_succ])
          (refine kF.takeL (i := 9) (v := undef) rfl (by kernel_rfl) (fun _ _ _ h => h) (Or.inr ⟨by rfl, rfl⟩) ?_
           try simp only [Act.put, List.setIfInBounds_toArray, List.set_cons_zero, List.set_cons_succ])
          (refine kF.takeL (i := 10) (v := undef) rfl (by kernel_rfl) (fun _ _ _ h => h) (Or.inr ⟨by rfl, rfl⟩) ?_
           try simp only [Act.put, List.setIfInBounds_toArray, List.set_cons_zero, List.set_cons_succ])
          (refine kF.takeL (i := 11) (v := undef) rfl (by kernel_rfl) (fun _ _ _ h => h) (Or.inr ⟨by rfl, rfl⟩) ?_
           try simp only [Act.put, List.setIfInBounds_toArray, List.set_cons_zero, List.set_cons_succ])
          (refine kF.takeL (i := 12) (v := undef) rfl (by kernel_rfl) (fun _ _ _ h => h) (Or.inr ⟨by rfl, rfl⟩) ?_
           try simp only [Act.put, List.setIfInBounds_toArray, List.set_cons_zero, List.set_cons_succ])
          (refine kF.takeL (i := 13) (v := undef) rfl (by kernel_rfl) (fun _ _ _ h => h) (Or.inr ⟨by rfl, rfl⟩) ?_
           try simp only [Act.put, List.setIfInBounds_toArray, List.set_cons_zero, List.set_cons_succ])
          (refine kF.takeL (i := 14) (v := undef) rfl (by kernel_rfl) (fun _ _ _ h => h) (Or.inr ⟨by rfl, rfl⟩) ?_
           try simp only [Act.put, List.setIfInBounds_toArray, List.set_cons_zero, List.set_cons_succ])
          (refine kF.takeL (i := 15) (v := undef) rfl (by kernel_rfl) (fun _ _ _ h => h) (Or.inr ⟨by rfl, rfl⟩) ?_
           try simp only [Act.put, List.setIfInBounds_toArray, List.set_cons_zero, List.set_cons_succ])
          (refine kF.takeL (i := 16) (v := ?_) rfl (by kernel_rfl) (fun _ _ _ h => h) (Or.inl ⟨by rfl, ?_⟩) ?_
           rotate_left
           · (intro wS hSw; (try dsimp only at hSw); have hcS := fun b o (h : b < w4.heap.size) => hSw.cell (p := ⟨b, o, none⟩) h; go_simp; (try with_reducible rfl))
           try simp only [Act.put, List.setIfInBounds_toArray, List.set_cons_zero, List.set_cons_succ])
          (refine kF.takeL (i := 17) (v := ?_) rfl (by kernel_rfl) (fun _ _ _ h => h) (Or.inl ⟨by rfl, ?_⟩) ?_
           rotate_left
           · (intro wS hSw; (try dsimp only at hSw); have hcS := fun b o (h : b < w4.heap.size) => hSw.cell (p := ⟨b, o, none⟩) h; go_simp; (try with_reducible rfl))
           try simp only [Act.put, List.setIfInBounds_toArray, List.set_cons_zero, List.set_cons_succ])
          refine kF.done (by kernel_rfl) ?_
          go_wp2_with fail
          go_roundw
          case rel => exact ⟨0 + 1, by omega, by go_num, hgo', hbw4.trans (hS1.mono hbw4.size)⟩
          case measure => simp [intOf]; omega
        · obtain ⟨j, rfl⟩ : ∃ j, k = j + 1 := ⟨k - 1, by omega⟩
          obtain ⟨b', off', x', e', hb', hx', v0, -⟩ := (h.to hbw4).at (i := j) (by omega)
          cases e'
          obtain ⟨⟨name', dir', size', chunks'⟩, s'⟩ := x'
          dsimp only at v0
          have hpr : Hid (prevEnt (L.map Prod.fst) (j + 1) = some name') := by
            unfold Hid
            show ((L.map Prod.fst)[j]?).map Ent.name = some name'
            rw [List.getElem?_map, hx']
            rfl
          clear hx' z0 z1 z2 z3
          rw [show (((j + 1 : Nat) : Int)) = (j : Int) + 1 by omega] at hi1 ⊢
          have hwp : Hid (IntKind.i64.wrap (j : Int) = (j : Int)) := by unfold Hid; rw [IntKind.wrap_i64]; omega
          have hjn : j < n := by omega
          have hj0 : decide ((0 : Int) < (j : Int) + 1) = true := decide_eq_true (by omega)
          cases hS : sLt name' name with
          | true =>
            have hgo' : Hid (mayNgo P none (L.map Prod.fst) = mayNgo P (prevEnt (L.map Prod.fst) (j + 1 + 1)) ((L.map Prod.fst).drop (j + 1 + 1))) := by
              unfold Hid
              rw [hpv.out, hgo.out, hdr.out, hpr.out]
              show (true && sLt name' name && _) = _
              rw [hS]
              rfl
            have hS' : Op.bytesLess name'.toList name.toList = true := hS
            clear hS
            refine region_krip (fun W : World => Below w4.heap.size w4 W) (by kernel_rfl) ((Below.refl _ _).drew) ?_
            (refine kF.takeL (i := 0) (v := ?_) rfl (by kernel_rfl) (fun _ _ _ h => h) (Or.inl ⟨by rfl, ?_⟩) ?_
             rotate_left
             · (intro wS hSw; (try dsimp only at hSw); have hcS := fun b o (h : b < w4.heap.size) => hSw.cell (p := ⟨b, o, none⟩) h; go_simp; (try with_reducible rfl))
             try simp only [Act.put, List.setIfInBounds_toArray, List.set_cons_zero, List.set_cons_succ])
            (refine kF.lastL (j := 1) rfl (by kernel_rfl) (fun _ _ _ _ _ => Iff.rfl) (fun _ _ h1 h2 => below_S (Nat.le_refl _) h1 h2) (fun hSk K hK => ?_)
             (go_simp; refine (hEM.out _ hSk).mono ?_; rintro e m1 ⟨rfl, hb1⟩; have hS1 := hSk.trans (hb1.mono hSk.size))
             refine hK.out _ _ (below_S (Nat.le_refl _) hSk hb1) ?_
             clear hK K
             try simp only [Act.put, List.setIfInBounds_toArray, List.set_cons_zero, List.set_cons_succ])
            clear hSk
            (refine kF.takeL (i := 2) (v := ?_) rfl (by kernel_rfl) (fun _ _ _ h => h) (Or.inl ⟨by rfl, ?_⟩) ?_
             rotate_left
             · (intro wS hSw; (try dsimp only at hSw); have hcS := fun b o (h : b < w4.heap.size) => hSw.cell (p := ⟨b, o, none⟩) h; go_simp; (try with_reducible rfl))
             try simp only [Act.put, List.setIfInBounds_toArray, List.set_cons_zero, List.set_cons_succ])
            (refine kF.takeL (i := 3) (v := ?_) rfl (by kernel_rfl) (fun _ _ _ h => h) (Or.inl ⟨by rfl, ?_⟩) ?_
             rotate_left
             · (intro wS hSw; (try dsimp only at hSw); have hcS := fun b o (h : b < w4.heap.size) => hSw.cell (p := ⟨b, o, none⟩) h; go_simp; (try with_reducible rfl))
             try simp only [Act.put, List.setIfInBounds_toArray, List.set_cons_zero, List.set_cons_succ])
            (refine kF.takeL (i := 4) (v := ?_) rfl (by kernel_rfl) (fun _ _ _ h => h) (Or.inl ⟨by rfl, ?_⟩) ?_
             rotate_left
             · (intro wS hSw; (try dsimp only at hSw); have hcS := fun b o (h : b < w4.heap.size) => hSw.cell (p := ⟨b, o, none⟩) h; go_simp; (try with_reducible rfl))
             try simp only [Act.put, List.setIfInBounds_toArray, List.set_cons_zero, List.set_cons_succ])
            (refine kF.takeL (i := 5) (v := ?_) rfl (by kernel_rfl) (fun _ _ _ h => h) (Or.inl ⟨by rfl, ?_⟩) ?_
             rotate_left
             · (intro wS hSw; (try dsimp only at hSw); have hcS := fun b o (h : b < w4.heap.size) => hSw.cell (p := ⟨b, o, none⟩) h; go_simp; (try with_reducible rfl))
             try simp only [Act.put, List.setIfInBounds_toArray, List.set_cons_zero, List.set_cons_succ])
            (refine kF.takeL (i := 6) (v := ?_) rfl (by kernel_rfl) (fun _ _ _ h => h) (Or.inl ⟨by rfl, ?_⟩) ?_
             rotate_left
             · (intro wS hSw; (try dsimp only at hSw); have hcS := fun b o (h : b < w4.heap.size) => hSw.cell (p := ⟨b, o, none⟩) h; go_simp; (try with_reducible rfl))
             try simp only [Act.put, List.setIfInBounds_toArray, List.set_cons_zero, List.set_cons_succ])
            (refine kF.takeL (i := 7) (v := ?_) rfl (by kernel_rfl) (fun _ _ _ h => h) (Or.inl ⟨by rfl, ?_⟩) ?_
             rotate_left
             · (intro wS hSw; (try dsimp only at hSw); have hcS := fun b o (h : b < w4.heap.size) => hSw.cell (p := ⟨b, o, none⟩) h; go_simp; (try with_reducible rfl))
             try simp only [Act.put, List.setIfInBounds_toArray, List.set_cons_zero, List.set_cons_succ])
            (refine kF.takeL (i := 8) (v := ?_) rfl (by kernel_rfl) (fun _ _ _ h => h) (Or.inl ⟨by rfl, ?_⟩) ?_
             rotate_left
             · (intro wS hSw; (try dsimp only at hSw); have hcS := fun b o (h : b < w4.heap.size) => hSw.cell (p := ⟨b, o, none⟩) h; go_simp; (try with_reducible rfl))
             try simp only [Act.put, List.setIfInBounds_toArray, List.set_cons_zero, List.set_cons_succ])
            (refine kF.takeL (i := 9) (v := (.int .i64 (j : Int))) rfl (by kernel_rfl) (fun _ _ _ h => h) (Or.inl ⟨by rfl, ?_⟩) ?_
             · (intro wS hSw; (try dsimp only at hSw); have hcS := fun b o (h : b < w4.heap.size) => hSw.cell (p := ⟨b, o, none⟩) h; go_simp; (first | done | rw [hwp.out]))
             try simp only [Act.put, List.setIfInBounds_toArray, List.set_cons_zero, List.set_cons_succ])
            (refine kF.takeL (i := 10) (v := ?_) rfl (by kernel_rfl) (fun _ _ _ h => h) (Or.inl ⟨by rfl, ?_⟩) ?_
             rotate_left
             · (intro wS hSw; (try dsimp only at hSw); have hcS := fun b o (h : b < w4.heap.size) => hSw.cell (p := ⟨b, o, none⟩) h; go_simp; (try with_reducible rfl))
             try simp only [Act.put, List.setIfInBounds_toArray, List.set_cons_zero, List.set_cons_succ])
            (refine kF.takeL (i := 11) (v := ?_) rfl (by kernel_rfl) (fun _ _ _ h => h) (Or.inl ⟨by rfl, ?_⟩) ?_
             rotate_left
             · (intro wS hSw; (try dsimp only at hSw); have hcS := fun b o (h : b < w4.heap.size) => hSw.cell (p := ⟨b, o, none⟩) h; go_simp; (try with_reducible rfl))
             try simp only [Act.put, List.setIfInBounds_toArray, List.set_cons_zero, List.set_cons_succ])
            (refine kF.takeL (i := 12) (v := ?_) rfl (by kernel_rfl) (fun _ _ _ h => h) (Or.inl ⟨by rfl, ?_⟩) ?_
             rotate_left
             · (intro wS hSw; (try dsimp only at hSw); have hcS := fun b o (h : b < w4.heap.size) => hSw.cell (p := ⟨b, o, none⟩) h; go_simp; (try with_reducible rfl))
             try simp only [Act.put, List.setIfInBounds_toArray, List.set_cons_zero, List.set_cons_succ])
            (refine kF.takeL (i := 13) (v := ?_) rfl (by kernel_rfl) (fun _ _ _ h => h) (Or.inl ⟨by rfl, ?_⟩) ?_
             rotate_left
             · (intro wS hSw; (try dsimp only at hSw); have hcS := fun b o (h : b < w4.heap.size) => hSw.cell (p := ⟨b, o, none⟩) h; go_simp; (try with_reducible rfl))
             try simp only [Act.put, List.setIfInBounds_toArray, List.set_cons_zero, List.set_cons_succ])
            (refine kF.takeL (i := 14) (v := ?_) rfl (by kernel_rfl) (fun _ _ _ h => h) (Or.inl ⟨by rfl, ?_⟩) ?_
             rotate_left
             · (intro wS hSw; (try dsimp only at hSw); have hcS := fun b o (h : b < w4.heap.size) => hSw.cell (p := ⟨b, o, none⟩) h; go_simp; (try with_reducible rfl))
             try simp only [Act.put, List.setIfInBounds_toArray, List.set_cons_zero, List.set_cons_succ])
            (refine kF.takeL (i := 15) (v := ?_) rfl (by kernel_rfl) (fun _ _ _ h => h) (Or.inl ⟨by rfl, ?_⟩) ?_
             rotate_left
             · (intro wS hSw; (try dsimp only at hSw); have hcS := fun b o (h : b < w4.heap.size) => hSw.cell (p := ⟨b, o, none⟩) h; go_simp; (try with_reducible rfl))
             try simp only [Act.put, List.setIfInBounds_toArray, List.set_cons_zero, List.set_cons_succ])
            (refine kF.takeL (i := 16) (v := ?_) rfl (by kernel_rfl) (fun _ _ _ h => h) (Or.inl ⟨by rfl, ?_⟩) ?_
             rotate_left
             · (intro wS hSw; (try dsimp only at hSw); have hcS := fun b o (h : b < w4.heap.size) => hSw.cell (p := ⟨b, o, none⟩) h; go_simp; (try with_reducible rfl))
             try simp only [Act.put, List.setIfInBounds_toArray, List.set_cons_zero, List.set_cons_succ])
            (refine kF.takeL (i := 17) (v := ?_) rfl (by kernel_rfl) (fun _ _ _ h => h) (Or.inl ⟨by rfl, ?_⟩) ?_
             rotate_left
             · (intro wS hSw; (try dsimp only at hSw); have hcS := fun b o (h : b < w4.heap.size) => hSw.cell (p := ⟨b, o, none⟩) h; go_simp; (try with_reducible rfl))
             try simp only [Act.put, List.setIfInBounds_toArray, List.set_cons_zero, List.set_cons_succ])
            refine kF.done (by kernel_rfl) ?_
            go_wp2_with fail
            go_roundw
            case rel => exact ⟨j + 1 + 1, by omega, by go_num, hgo', hbw4.trans (hS1.mono hbw4.size)⟩
            case measure => simp [intOf]; omega
          | false =>
            have hfin : Hid (mayN P (L.map Prod.fst) = false) := by
              unfold Hid mayN
              rw [hgo.out, hdr.out, hpr.out]
              show (true && sLt name' name && _ && _) = _
              rw [hS]
              rfl
            have hS' : Op.bytesLess name'.toList name.toList = false := hS
            clear hS
            refine region_krip (fun W : World => Below w4.heap.size w4 W) (by kernel_rfl) ((Below.refl _ _).drew) ?_
            (refine kF.takeL (i := 0) (v := ?_) rfl (by kernel_rfl) (fun _ _ _ h => h) (Or.inl ⟨by rfl, ?_⟩) ?_
             rotate_left
             · (intro wS hSw; (try dsimp only at hSw); have hcS := fun b o (h : b < w4.heap.size) => hSw.cell (p := ⟨b, o, none⟩) h; go_simp; (try with_reducible rfl))
             try simp only [Act.put, List.setIfInBounds_toArray, List.set_cons_zero, List.set_cons_succ])
            (refine kF.lastL (j := 1) rfl (by kernel_rfl) (fun _ _ _ _ _ => Iff.rfl) (fun _ _ h1 h2 => below_S (Nat.le_refl _) h1 h2) (fun hSk K hK => ?_)
             (go_simp; refine (hEM.out _ hSk).mono ?_; rintro e m1 ⟨rfl, hb1⟩; have hS1 := hSk.trans (hb1.mono hSk.size))
             refine hK.out _ _ (below_S (Nat.le_refl _) hSk hb1) ?_
             clear hK K
             try simp only [Act.put, List.setIfInBounds_toArray, List.set_cons_zero, List.set_cons_succ])
            clear hSk
            (refine kF.takeL (i := 2) (v := ?_) rfl (by kernel_rfl) (fun _ _ _ h => h) (Or.inl ⟨by rfl, ?_⟩) ?_
             rotate_left
             · (intro wS hSw; (try dsimp only at hSw); have hcS := fun b o (h : b < w4.heap.size) => hSw.cell (p := ⟨b, o, none⟩) h; go_simp; (try with_reducible rfl))
             try simp only [Act.put, List.setIfInBounds_toArray, List.set_cons_zero, List.set_cons_succ])
            (refine kF.takeL (i := 3) (v := ?_) rfl (by kernel_rfl) (fun _ _ _ h => h) (Or.inl ⟨by rfl, ?_⟩) ?_
             rotate_left
             · (intro wS hSw; (try dsimp only at hSw); have hcS := fun b o (h : b < w4.heap.size) => hSw.cell (p := ⟨b, o, none⟩) h; go_simp; (try with_reducible rfl))
             try simp only [Act.put, List.setIfInBounds_toArray, List.set_cons_zero, List.set_cons_succ])
            (refine kF.takeL (i := 4) (v := ?_) rfl (by kernel_rfl) (fun _ _ _ h => h) (Or.inl ⟨by rfl, ?_⟩) ?_
             rotate_left
             · (intro wS hSw; (try dsimp only at hSw); have hcS := fun b o (h : b < w4.heap.size) => hSw.cell (p := ⟨b, o, none⟩) h; go_simp; (try with_reducible rfl))
             try simp only [Act.put, List.setIfInBounds_toArray, List.set_cons_zero, List.set_cons_succ])
            (refine kF.takeL (i := 5) (v := ?_) rfl (by kernel_rfl) (fun _ _ _ h => h) (Or.inl ⟨by rfl, ?_⟩) ?_
             rotate_left
             · (intro wS hSw; (try dsimp only at hSw); have hcS := fun b o (h : b < w4.heap.size) => hSw.cell (p := ⟨b, o, none⟩) h; go_simp; (try with_reducible rfl))
             try simp only [Act.put, List.setIfInBounds_toArray, List.set_cons_zero, List.set_cons_succ])
            (refine kF.takeL (i := 6) (v := ?_) rfl (by kernel_rfl) (fun _ _ _ h => h) (Or.inl ⟨by rfl, ?_⟩) ?_
             rotate_left
             · (intro wS hSw; (try dsimp only at hSw); have hcS := fun b o (h : b < w4.heap.size) => hSw.cell (p := ⟨b, o, none⟩) h; go_simp; (try with_reducible rfl))
             try simp only [Act.put, List.setIfInBounds_toArray, List.set_cons_zero, List.set_cons_succ])
            (refine kF.takeL (i := 7) (v := ?_) rfl (by kernel_rfl) (fun _ _ _ h => h) (Or.inl ⟨by rfl, ?_⟩) ?_
             rotate_left
             · (intro wS hSw; (try dsimp only at hSw); have hcS := fun b o (h : b < w4.heap.size) => hSw.cell (p := ⟨b, o, none⟩) h; go_simp; (try with_reducible rfl))
             try simp only [Act.put, List.setIfInBounds_toArray, List.set_cons_zero, List.set_cons_succ])
            (refine kF.takeL (i := 8) (v := ?_) rfl (by kernel_rfl) (fun _ _ _ h => h) (Or.inl ⟨by rfl, ?_⟩) ?_
             rotate_left
             · (intro wS hSw; (try dsimp only at hSw); have hcS := fun b o (h : b < w4.heap.size) => hSw.cell (p := ⟨b, o, none⟩) h; go_simp; (try with_reducible rfl))
             try simp only [Act.put, List.setIfInBounds_toArray, List.set_cons_zero, List.set_cons_succ])
            (refine kF.takeL (i := 9) (v := (.int .i64 (j : Int))) rfl (by kernel_rfl) (fun _ _ _ h => h) (Or.inl ⟨by rfl, ?_⟩) ?_
             · (intro wS hSw; (try dsimp only at hSw); have hcS := fun b o (h : b < w4.heap.size) => hSw.cell (p := ⟨b, o, none⟩) h; go_simp; (first | done | rw [hwp.out]))
             try simp only [Act.put, List.setIfInBounds_toArray, List.set_cons_zero, List.set_cons_succ])
            (refine kF.takeL (i := 10) (v := ?_) rfl (by kernel_rfl) (fun _ _ _ h => h) (Or.inl ⟨by rfl, ?_⟩) ?_
             rotate_left
             · (intro wS hSw; (try dsimp only at hSw); have hcS := fun b o (h : b < w4.heap.size) => hSw.cell (p := ⟨b, o, none⟩) h; go_simp; (try with_reducible rfl))
             try simp only [Act.put, List.setIfInBounds_toArray, List.set_cons_zero, List.set_cons_succ])
            (refine kF.takeL (i := 11) (v := ?_) rfl (by kernel_rfl) (fun _ _ _ h => h) (Or.inl ⟨by rfl, ?_⟩) ?_
             rotate_left
             · (intro wS hSw; (try dsimp only at hSw); have hcS := fun b o (h : b < w4.heap.size) => hSw.cell (p := ⟨b, o, none⟩) h; go_simp; (try with_reducible rfl))
             try simp only [Act.put, List.setIfInBounds_toArray, List.set_cons_zero, List.set_cons_succ])
            (refine kF.takeL (i := 12) (v := ?_) rfl (by kernel_rfl) (fun _ _ _ h => h) (Or.inl ⟨by rfl, ?_⟩) ?_
             rotate_left
             · (intro wS hSw; (try dsimp only at hSw); have hcS := fun b o (h : b < w4.heap.size) => hSw.cell (p := ⟨b, o, none⟩) h; go_simp; (try with_reducible rfl))
             try simp only [Act.put, List.setIfInBounds_toArray, List.set_cons_zero, List.set_cons_succ])
            (refine kF.takeL (i := 13) (v := ?_) rfl (by kernel_rfl) (fun _ _ _ h => h) (Or.inl ⟨by rfl, ?_⟩) ?_
             rotate_left
             · (intro wS hSw; (try dsimp only at hSw); have hcS := fun b o (h : b < w4.heap.size) => hSw.cell (p := ⟨b, o, none⟩) h; go_simp; (try with_reducible rfl))
             try simp only [Act.put, List.setIfInBounds_toArray, List.set_cons_zero, List.set_cons_succ])
            (refine kF.takeL (i := 14) (v := ?_) rfl (by kernel_rfl) (fun _ _ _ h => h) (Or.inl ⟨by rfl, ?_⟩) ?_
             rotate_left
             · (intro wS hSw; (try dsimp only at hSw); have hcS := fun b o (h : b < w4.heap.size) => hSw.cell (p := ⟨b, o, none⟩) h; go_simp; (try with_reducible rfl))
             try simp only [Act.put, List.setIfInBounds_toArray, List.set_cons_zero, List.set_cons_succ])
            (refine kF.takeL (i := 15) (v := ?_) rfl (by kernel_rfl) (fun _ _ _ h => h) (Or.inl ⟨by rfl, ?_⟩) ?_
             rotate_left
             · (intro wS hSw; (try dsimp only at hSw); have hcS := fun b o (h : b < w4.heap.size) => hSw.cell (p := ⟨b, o, none⟩) h; go_simp; (try with_reducible rfl))
             try simp only [Act.put, List.setIfInBounds_toArray, List.set_cons_zero, List.set_cons_succ])
            (refine kF.takeL (i := 16) (v := ?_) rfl (by kernel_rfl) (fun _ _ _ h => h) (Or.inl ⟨by rfl, ?_⟩) ?_
             rotate_left
             · (intro wS hSw; (try dsimp only at hSw); have hcS := fun b o (h : b < w4.heap.size) => hSw.cell (p := ⟨b, o, none⟩) h; go_simp; (try with_reducible rfl))
             try simp only [Act.put, List.setIfInBounds_toArray, List.set_cons_zero, List.set_cons_succ])
            (refine kF.takeL (i := 17) (v := ?_) rfl (by kernel_rfl) (fun _ _ _ h => h) (Or.inl ⟨by rfl, ?_⟩) ?_
             rotate_left
             · (intro wS hSw; (try dsimp only at hSw); have hcS := fun b o (h : b < w4.heap.size) => hSw.cell (p := ⟨b, o, none⟩) h; go_simp; (try with_reducible rfl))
             try simp only [Act.put, List.setIfInBounds_toArray, List.set_cons_zero, List.set_cons_succ])
            refine kF.done (by kernel_rfl) ?_
            go_wp2_with fail
            go_ret
            exact ⟨ret_bool hfin.out.symm, hbw4.trans (hS1.mono hbw4.size)⟩
    · obtain rfl : k = n := by omega
      have hfin : Hid (mayN P (L.map Prod.fst) = decide (k ≤ 256)) := by
        unfold Hid mayN
        rw [hgo.out, List.drop_eq_nil_of_le (by rw [List.length_map, hl.out]; exact Nat.le_refl _), List.length_map, hl.out]
        rfl
      go_wp2_with fail
      go_ret
      exact ⟨ret_bool (by rw [hfin.out]; apply decide_eq_decide.2; omega), hbw⟩
end Go.Proofs.YtdhlmhkabckbaaaGreatDoor
