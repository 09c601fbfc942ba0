/-
  Package sha: a hash is copied.
-/
import Derived.Test.YtdhlmhkabckbaaaGreatDoorShaA
import Derived.Test.YtdhlmhkabckbaaaGreatDoorLayH
import Derived.Test.YtdhlmhkabckbaaaGreatDoorStrs
namespace Go.Proofs.YtdhlmhkabckbaaaGreatDoor
open Go.RowKit

def u8V (l : List UInt8) : List Value := l.map fun b => .int .u8 b.toNat
theorem u8V_flat (l : List UInt8) : l.flatMap byteCell = u8V l := by
  induction l with
  | nil => rfl
  | cons x l ih => rw [List.flatMap_cons, ih]; rfl
theorem make_u8 (n : Nat) (hn : n ≤ 1000000) (W : World) : (Instr.makeSlice 46 (.int .i64 (n : Int)) (.int .i64 (n : Int))).run Tryz.prog W = .ok (.slice (some ⟨W.heap.size, 0, none⟩) n n) (W.alloc (.cells (u8V (List.replicate n 0)).toArray 5)) := by
  obtain ⟨i, hi, hz, hsz, hby⟩ := infoOf (P := Tryz.prog) (e := 5) (z := .int .u8 0) (a := 1) (b := 1) (by kernel_rfl)
  have hbb : (i.bytes : Int) * (n : Int) ≤ 281474976710656 := by rw [hby]; omega
  have h := Go.run_make (P := Tryz.prog) W 46 5 i (.int .u8 0) Tryz.underlying46 hi hz .i64 .i64 (n : Int) (n : Int) (by omega) (Int.le_refl _) hbb (by omega)
  rw [hsz] at h
  have hc : madeCells (Value.int .u8 0).cells (n * 1) = (u8V (List.replicate n 0)).toArray := by
    apply Array.ext'
    rw [show (Value.int .u8 0).cells = #[Value.int .u8 0] from rfl, toList_madeCells_one, Nat.mul_one]
    simp [u8V]
  simp only [Int.toNat_natCast] at h
  rw [hc] at h
  exact h
theorem copy_u8 (w : World) (ty : TypeId) (q n c B : Nat) (A : Option Addr) (L : List UInt8) (Z : List UInt8) (hZ : Z.length = n) (hq : w.heap[q]? = some (.cells (u8V Z).toArray 5)) (hL : RowAt 1 byteCell w B A n L) :
    ∃ w', (Builtin.copy_ #[46, 46] ty #[.slice (some ⟨q, 0, none⟩) n n, .slice A n c]).run Tryz.prog w = .ok (goInt n) w' ∧ w'.heap[q]? = some (.cells (u8V L).toArray 5) ∧ w.grownBy w' (some q) := by
  obtain ⟨i, hi, hz, hsz, hby⟩ := infoOf (P := Tryz.prog) (e := 5) (z := .int .u8 0) (a := 1) (b := 1) (by kernel_rfl)
  have hLn := hL.1
  rcases Nat.eq_zero_or_pos n with h0 | h0
  · subst h0
    have e1 : L = [] := List.eq_nil_of_length_eq_zero hLn
    have e2 : Z = [] := List.eq_nil_of_length_eq_zero hZ
    subst e1
    subst e2
    refine ⟨w, ?_, hq, ⟨rfl, rfl, rfl, Nat.le_refl _, fun _ _ _ => rfl⟩⟩
    cases A <;> simp [Builtin.copy_, run_underlying Tryz.underlying46, Builtin.lenOf, Builtin.firstCells, sizeOf, typeInfo, hi, loadCells, loadCellsFrom, storeCells]
  · obtain ⟨b', off', rfl, hb', hc'⟩ := hL.2.2 h0
    have hsrc : ∀ j v, (u8V L)[j]? = some v → w.cell? ((⟨b', off', none⟩ : Addr).add j) = some v := fun j v hj => by
      rw [u8V, List.getElem?_map] at hj
      cases hx : L[j]? with
      | none => rw [hx] at hj; cases hj
      | some x =>
        rw [hx] at hj
        rw [Addr.add_lit]
        have := hc' j x hx 0 (.int .u8 x.toNat) rfl
        simp at hj
        rw [← hj]
        simpa using this
    have hlen : (u8V L).length = n := by rw [u8V, List.length_map, hLn]
    have hl := run_loadCells_list (P := Tryz.prog) w ⟨b', off', none⟩ (u8V L) hsrc
    have hst := run_storeCells_at Tryz.prog q 0 5 (u8V L) 0 (u8V Z).toArray w hq (by simp [u8V, hZ, hLn]) (fun v hv => by
      obtain ⟨x, _, rfl⟩ := List.mem_map.1 hv
      rfl)
    refine ⟨w.setRow q (u8V L).toArray, ?_, setRow_heap w q _ _ 5 (0, 0) hq, ⟨rfl, rfl, rfl, by simp [World.setRow], fun k _ hk => setRow_other (fun e => hk (by rw [e]))⟩⟩
    rw [hlen] at hl
    simp [Builtin.copy_, run_underlying Tryz.underlying46, Builtin.lenOf, Builtin.firstCells, sizeOf, typeInfo, hi, hsz, hl, hst]
    rw [List.drop_eq_nil_of_le (by simp [u8V, hZ, hLn]), List.append_nil]
theorem wpList_copy_u8 {ops : Array Oper} {rest : List Oper} {o : Oper} {a : Act} {w : World} {Q : Exit → Act → World → Prop} (hgd : o.guard = none) (d s : Operand)
    (ho : o.op = .call { callee := .builtin .copy, args := #[d, s], argTypes := #[46, 46] }) (q n c B : Nat) (A : Option Addr) (L Z : List UInt8) (hd : a.eval d = .slice (some ⟨q, 0, none⟩) n n) (hs : a.eval s = .slice A n c)
    (hZ : Z.length = n) (hq : w.heap[q]? = some (.cells (u8V Z).toArray 5)) (hL : RowAt 1 byteCell w B A n L)
    (h : ∀ w', w'.heap[q]? = some (.cells (u8V L).toArray 5) → w.grownBy w' (some q) → wpList Tryz.prog ops Q rest (a.put o.dst (goInt n)) w') : wpList Tryz.prog ops Q (o :: rest) a w := by
  refine wpList_plain hgd fun _ hK => ?_
  obtain ⟨w', hrun, h1, h2⟩ := copy_u8 w o.type q n c B A L Z hZ hq hL
  unfold Oper.wp
  simp [execOp, ho, resolve, invoke, builtin, hd, hs, hrun, Result.andThen]
  exact hK _ _ (h w' h1 h2)
theorem u8_row {w : World} {q n : Nat} {L : List UInt8} (hq : w.heap[q]? = some (.cells (u8V L).toArray 5)) (hn : L.length = n) (h1 : n ≤ 9223372036854775807) : RowAt 1 byteCell w w.heap.size (some ⟨q, 0, none⟩) n L :=
  ⟨hn, h1, fun _ => ⟨q, 0, rfl, (Array.getElem?_eq_some_iff.1 hq).1, fun i x hx j v hv => by
    rcases j with _ | j
    · simp [byteCell] at hv
      subst hv
      refine (cell_of_row w q _ _ _ _ hq).trans ?_
      simp [u8V, hx]
    · simp [byteCell] at hv⟩⟩

set_option maxRecDepth 100000 in
set_option maxHeartbeats 4000000 in
theorem sha_Copy (b g cR n c : Nat) (now R : List Int) (t : Int) (A : Option Addr) (L : List UInt8) (w : World) (hq : w.heap[b]? = some (hObj now (.slice A n c) t (.slice (some ⟨g, 0, none⟩) 64 cR))) (h8 : now.length = 8)
    (hL : RowAt 1 byteCell w w.heap.size A n L) (hn : n ≤ 1000) :
    Calls Tryz.prog 89 #[.pointer (some ⟨b, 0, none⟩)] w fun e w' => ∃ q g2, e = .returned (.pointer (some ⟨q, 0, none⟩)) ∧ w.heap.size ≤ q ∧ w.heap.size ≤ g2 ∧ g2 ≠ q ∧
      w'.heap[q]? = some (hObj now (.slice (some ⟨g2, 0, none⟩) n n) t (.slice (some ⟨g, 0, none⟩) 64 cR)) ∧ RowAt 1 byteCell w' w'.heap.size (some ⟨g2, 0, none⟩) n L ∧ Below w.heap.size w w' := by
  have hmk := make_u8 n (by omega)
  obtain ⟨n0, n1, n2, n3, n4, n5, n6, n7, rfl⟩ := list8 h8
  obtain ⟨lb, z8, z9, z10, zf⟩ := hObj_tail hq h8
  have z0 : w.cell? ⟨b, 0, none⟩ = some (.int .u32 n0) := (cell_of_row w b 0 _ _ _ hq).trans rfl
  have z1 : w.cell? ⟨b, 1, none⟩ = some (.int .u32 n1) := (cell_of_row w b 1 _ _ _ hq).trans rfl
  have z2 : w.cell? ⟨b, 2, none⟩ = some (.int .u32 n2) := (cell_of_row w b 2 _ _ _ hq).trans rfl
  have z3 : w.cell? ⟨b, 3, none⟩ = some (.int .u32 n3) := (cell_of_row w b 3 _ _ _ hq).trans rfl
  have z4 : w.cell? ⟨b, 4, none⟩ = some (.int .u32 n4) := (cell_of_row w b 4 _ _ _ hq).trans rfl
  have z5 : w.cell? ⟨b, 5, none⟩ = some (.int .u32 n5) := (cell_of_row w b 5 _ _ _ hq).trans rfl
  have z6 : w.cell? ⟨b, 6, none⟩ = some (.int .u32 n6) := (cell_of_row w b 6 _ _ _ hq).trans rfl
  have z7 : w.cell? ⟨b, 7, none⟩ = some (.int .u32 n7) := (cell_of_row w b 7 _ _ _ hq).trans rfl
  go_enter Tryz.func89, Tryz.ntmps89
  go_upto_region 5 with fail
  have hqC := halloc (.cells (u8V (List.replicate n 0)).toArray 5) (heap_alloc_new w (.cells #[.int .u32 n0, .int .u32 n1, .int .u32 n2, .int .u32 n3, .int .u32 n4, .int .u32 n5, .int .u32 n6, .int .u32 n7, .slice (some ⟨w.heap.size + 1, 0, none⟩) n n, .int .i64 t, .slice (some ⟨g, 0, none⟩) 64 cR] 129))
  have hqR : ((w.alloc (.cells #[.int .u32 n0, .int .u32 n1, .int .u32 n2, .int .u32 n3, .int .u32 n4, .int .u32 n5, .int .u32 n6, .int .u32 n7, .slice (some ⟨w.heap.size + 1, 0, none⟩) n n, .int .i64 t, .slice (some ⟨g, 0, none⟩) 64 cR] 129)).alloc (.cells (u8V (List.replicate n 0)).toArray 5)).heap[w.heap.size + 1]? = some (.cells (u8V (List.replicate n 0)).toArray 5) := by
    have := heap_alloc_new (w.alloc (.cells #[.int .u32 n0, .int .u32 n1, .int .u32 n2, .int .u32 n3, .int .u32 n4, .int .u32 n5, .int .u32 n6, .int .u32 n7, .slice (some ⟨w.heap.size + 1, 0, none⟩) n n, .int .i64 t, .slice (some ⟨g, 0, none⟩) 64 cR] 129)) (.cells (u8V (List.replicate n 0)).toArray 5)
    simpa using this
  have hbC : Below w.heap.size w ((w.alloc (.cells #[.int .u32 n0, .int .u32 n1, .int .u32 n2, .int .u32 n3, .int .u32 n4, .int .u32 n5, .int .u32 n6, .int .u32 n7, .slice (some ⟨w.heap.size + 1, 0, none⟩) n n, .int .i64 t, .slice (some ⟨g, 0, none⟩) 64 cR] 129)).alloc (.cells (u8V (List.replicate n 0)).toArray 5)) :=
    ((Below.refl _ w).alloc (Nat.le_refl _) _).alloc (by simp) _
  clear z0 z1 z2 z3 z4 z5 z6 z7 z9 z10 zf hmk
  generalize (w.alloc (.cells #[.int .u32 n0, .int .u32 n1, .int .u32 n2, .int .u32 n3, .int .u32 n4, .int .u32 n5, .int .u32 n6, .int .u32 n7, .slice (some ⟨w.heap.size + 1, 0, none⟩) n n, .int .i64 t, .slice (some ⟨g, 0, none⟩) 64 cR] 129)).alloc (.cells (u8V (List.replicate n 0)).toArray 5) = wC at hqC hqR hbC ⊢
  have z8C : wC.cell? ⟨b, 8, none⟩ = some (.slice A n c) := (hbC.cell (p := ⟨b, 8, none⟩) lb).trans z8
  have y8 : wC.cell? ⟨w.heap.size, 8, none⟩ = some (.slice (some ⟨w.heap.size + 1, 0, none⟩) n n) := (cell_of_row wC _ 8 _ _ _ hqC).trans rfl
  clear z8
  refine region_held_tail 6 (fun W : World => W.cell? ⟨b, 8, none⟩ = some (.slice A n c) ∧ W.cell? ⟨w.heap.size, 8, none⟩ = some (.slice (some ⟨w.heap.size + 1, 0, none⟩) n n)) (by kernel_rfl) (by kernel_rfl) ?_
  have hHeld : (fun W : World => W.cell? ⟨b, 8, none⟩ = some (.slice A n c) ∧ W.cell? ⟨w.heap.size, 8, none⟩ = some (.slice (some ⟨w.heap.size + 1, 0, none⟩) n n)) wC.drew := ⟨z8C, y8⟩
  (refine HT.takeL (i := 0) (v := ?_) rfl (by kernel_rfl) (fun _ _ _ h => h) (Or.inl ⟨by rfl, ?_⟩) (by assumption) ?_
   rotate_left
   · (intro w hSw; (try dsimp only at hSw); go_simp; (try with_reducible rfl))
   try simp only [Act.put, List.setIfInBounds_toArray, List.set_cons_zero, List.set_cons_succ])
  (refine HT.takeL (i := 1) (v := ?_) rfl (by kernel_rfl) (fun _ _ _ h => h) (Or.inl ⟨by rfl, ?_⟩) (by assumption) ?_
   rotate_left
   · (intro w hSw; (try dsimp only at hSw); go_simp; (try with_reducible rfl))
   try simp only [Act.put, List.setIfInBounds_toArray, List.set_cons_zero, List.set_cons_succ])
  (refine HT.takeL (i := 2) (v := ?_) rfl (by kernel_rfl) (fun _ _ _ h => h) (Or.inl ⟨by rfl, ?_⟩) (by assumption) ?_
   rotate_left
   · (intro w hSw; (try dsimp only at hSw); go_simp; (try with_reducible rfl))
   try simp only [Act.put, List.setIfInBounds_toArray, List.set_cons_zero, List.set_cons_succ])
  (refine HT.takeL (i := 3) (v := ?_) rfl (by kernel_rfl) (fun _ _ _ h => h) (Or.inl ⟨by rfl, ?_⟩) (by assumption) ?_
   rotate_left
   · (intro w hSw; (try dsimp only at hSw); go_simp; (try with_reducible rfl))
   try simp only [Act.put, List.setIfInBounds_toArray, List.set_cons_zero, List.set_cons_succ])
  (refine HT.takeL (i := 4) (v := ?_) rfl (by kernel_rfl) (fun _ _ _ h => h) (Or.inl ⟨by rfl, ?_⟩) (by assumption) ?_
   rotate_left
   · (intro w hSw; (try dsimp only at hSw); go_simp; (try with_reducible rfl))
   try simp only [Act.put, List.setIfInBounds_toArray, List.set_cons_zero, List.set_cons_succ])
  (refine HT.takeL (i := 5) (v := ?_) rfl (by kernel_rfl) (fun _ _ _ h => h) (Or.inl ⟨by rfl, ?_⟩) (by assumption) ?_
   rotate_left
   · (intro w hSw; (try dsimp only at hSw); go_simp; (try with_reducible rfl))
   try simp only [Act.put, List.setIfInBounds_toArray, List.set_cons_zero, List.set_cons_succ])
  refine HT.tail (by kernel_rfl) ?_
  simp only [List.drop_succ_cons, List.drop_zero]
  have hLC : RowAt 1 byteCell wC wC.heap.size A n L := hL.to hbC
  have hlR : w.heap.size + 1 < wC.heap.size := (Array.getElem?_eq_some_iff.1 hqR).1
  refine wpList_copy_u8 rfl (.tmp 17) (.tmp 21) rfl (w.heap.size + 1) n c wC.heap.size A L (List.replicate n 0) rfl rfl (by simp) hqR hLC.drew ?_
  intro w9 hq9 hg9
  refine wpList_nil ?_
  have hb9 : Below w.heap.size w w9 := Below.grown hbC.drew hg9 hbC.size (fun k hk => by cases hk; omega)
  have hqC9 := (hg9.block w.heap.size (by show _ < wC.heap.size; omega) (by simp)).trans hqC
  have hLn := hL.1
  clear hHeld hqC hqR hbC z8C y8 hLC
  replace hqC9 := Lib.hid hqC9
  replace hq9 := Lib.hid hq9
  go_wp2_with fail
  go_ret
  exact ⟨w.heap.size, w.heap.size + 1, rfl, Nat.le_refl _, Nat.le_succ _, by omega, hqC9.out, u8_row hq9.out hLn (by omega), hb9⟩
end Go.Proofs.YtdhlmhkabckbaaaGreatDoor
/-
  strings.Builder: the contracts of the shelf at this program (WriteByte, String), and what a builder is while others make memory.
-/
namespace Go.Proofs
open Go.Shelf Go.RowKit

def Tryz.builderByte_ren : Go.Shelf.Ren := ⟨fun | 167 => 90 | 240 => 125 | 276 => 178 | n => n, fun | 0 => 0 | 4 => 4 | 5 => 5 | 9 => 9 | 20 => 20 | 37 => 46 | 70 => 134 | 72 => 136 | 75 => 138 | 164 => 212 | 80 => 80 | n => n, fun | n => n⟩
theorem Tryz.builderByte : Go.Proofs.Lays.n167 Tryz.prog Tryz.builderByte_ren := {
  mixed := by kernel_rfl
  f167 := Tryz.func90.trans (congrArg some (by kernel_rfl))
  f240 := Tryz.func125.trans (congrArg some (by kernel_rfl))
  f276 := Tryz.func178.trans (congrArg some (by kernel_rfl))
  t0 := Tryz.underlying0
  a0 := Tryz.isAgg0
  z0 := Tryz.sizeOf0
  v0 := Tryz.zeroValue0
  t4 := Tryz.underlying4
  a4 := Tryz.isAgg4
  z4 := Tryz.sizeOf4
  v4 := Tryz.zeroValue4
  t5 := Tryz.underlying5
  a5 := Tryz.isAgg5
  z5 := Tryz.sizeOf5
  v5 := Tryz.zeroValue5
  t9 := Tryz.underlying9
  a9 := Tryz.isAgg9
  z9 := Tryz.sizeOf9
  v9 := Tryz.zeroValue9
  t20 := Tryz.underlying20
  a20 := Tryz.isAgg20
  z20 := Tryz.sizeOf20
  v20 := Tryz.zeroValue20
  t37 := Tryz.underlying46
  a37 := Tryz.isAgg46
  z37 := Tryz.sizeOf46
  v37 := Tryz.zeroValue46
  t70 := Tryz.underlying134
  a70 := Tryz.isAgg134
  z70 := Tryz.sizeOf134
  v70 := Tryz.zeroValue134
  t72 := Tryz.underlying136
  a72 := Tryz.isAgg136
  z72 := Tryz.sizeOf136
  v72 := Tryz.zeroValue136
  t75 := Tryz.underlying138
  a75 := Tryz.isAgg138
  z75 := Tryz.sizeOf138
  v75 := Tryz.zeroValue138
  t164 := Tryz.underlying212
  a164 := Tryz.isAgg212
  z164 := Tryz.sizeOf212
  v164 := Tryz.zeroValue212 }
theorem Tryz.builderByte_X : Builder.Extra Tryz.prog Tryz.builderByte_ren where
  sizeBuilder := by kernel_rfl
  liesBuilder := by kernel_rfl
  t5 := Tryz.underlying5
  a5 := Tryz.isAgg5
  z5 := Tryz.sizeOf5
  v5 := Tryz.zeroValue5
  infoByte := by kernel_rfl
  cellsByte := by kernel_rfl
  sizeByte := by kernel_rfl
  neB5 := by decide
theorem Tryz.builderString_X : Builder.Extra Tryz.prog Tryz.builderString_ren where
  sizeBuilder := by kernel_rfl
  liesBuilder := by kernel_rfl
  t5 := Tryz.underlying5
  a5 := Tryz.isAgg5
  z5 := Tryz.sizeOf5
  v5 := Tryz.zeroValue5
  infoByte := by kernel_rfl
  cellsByte := by kernel_rfl
  sizeByte := by kernel_rfl
  neB5 := by decide
end Go.Proofs
namespace Go.Proofs.YtdhlmhkabckbaaaGreatDoor
open Go.RowKit

/-- A builder of this call's own, at block b, that holds these bytes. -/
abbrev Bld (B b : Nat) (l : List UInt8) (w : World) : Prop := Lib.IsBuilder 136 5 B b (Lib.byteCells l) w

theorem builder_WriteByte (B b : Nat) (l : List UInt8) (x : UInt8) (w : World) (h : Bld B b l w) (hlen : l.length + 1 ≤ 140737488355328) (hBw : B ≤ w.heap.size) :
    Calls Tryz.prog 90 #[.pointer (some ⟨b, 0, none⟩), .int .u8 (x.toNat : Int)] w fun e w' => e = .returned .nilIface ∧ Bld B b (l ++ [x]) w' ∧ Below B w w' := by
  refine (Any.Builder_WriteByte Tryz.builderByte Tryz.builderByte_X B b _ (x.toNat : Int) w h (by simpa [Lib.byteCells] using hlen) hBw).mono ?_
  rintro e w' ⟨rfl, h1, h2⟩
  refine ⟨rfl, ?_, h2⟩
  have : Lib.byteCells (l ++ [x]) = Lib.byteCells l ++ [.int .u8 (x.toNat : Int)] := by simp [Lib.byteCells]
  unfold Bld
  rw [this]
  exact .inr h1
theorem builder_String (B b : Nat) (l : List UInt8) (w : World) (h : Bld B b l w) (hBw : B ≤ w.heap.size) :
    Calls Tryz.prog 91 #[.pointer (some ⟨b, 0, none⟩)] w fun e w' => e = .returned (.string ⟨l.toArray⟩) ∧ Below B w w' :=
  Any.Builder_String_any Tryz.builderString Tryz.builderString_X B b l w h hBw

/-- A builder stays while others make memory. -/
theorem Bld.below {B b : Nat} {l : List UInt8} {w w' : World} (h : Bld B b l w) (hb : Below w.heap.size w w') : Bld B b l w' := by
  have key : ∀ p, Lib.BuilderAt 136 5 B b p (Lib.byteCells l) w → Lib.BuilderAt 136 5 B b p (Lib.byteCells l) w' := by
    rintro p ⟨h1, v, h2, h3, h4⟩
    refine ⟨h1, v, ?_, World.ownsRow.kept h3 (row := none) ⟨hb.os, hb.tape, hb.output, hb.size, fun i hi _ => hb.block i hi⟩ (by cases v.ownBlock <;> simp), h4⟩
    rw [hb.block b (Array.getElem?_eq_some_iff.1 h2).1]
    exact h2
  exact h.imp (key _) (key _)
theorem Bld.fresh (w : World) : Bld w.heap.size w.heap.size [] (w.alloc (.cells #[.pointer none, .slice none 0 0] 136)) := Lib.fresh_isBuilder _ _ w
end Go.Proofs.YtdhlmhkabckbaaaGreatDoor

/-
  Package sha: the digest of all that was added.
-/
namespace Go.Proofs.YtdhlmhkabckbaaaGreatDoor
open Go.RowKit

/-- How many zeros stand behind the 128. -/
def padK (r : Nat) : Nat := (64 - (r + 9) % 64) % 64
theorem padK_at (r : Nat) : (r + (padK r + 1) + 8) % 64 = 0 := by unfold padK; omega
theorem padK_no {r k : Nat} (h : k < padK r) : (r + (k + 1) + 8) % 64 ≠ 0 := by unfold padK at h; omega
def lenOfV : Value → Nat
  | .slice _ n _ => n
  | _ => 0

/-- The last bytes of a length: those of 7 down to s. -/
def lenL (t s : Nat) : List UInt8 := (List.range (8 - s)).map fun a => UInt8.ofNat (t * 8 / 256 ^ (7 - a))
theorem lenL_8 (t : Nat) : lenL t 8 = [] := rfl
theorem lenL_step {t s : Nat} (h : s < 8) : lenL t s = lenL t (s + 1) ++ [UInt8.ofNat (t * 8 / 256 ^ s)] := by
  unfold lenL
  rw [show 8 - s = (8 - (s + 1)) + 1 by omega, List.range_succ, List.map_append]
  simp only [List.map_cons, List.map_nil]
  rw [show 7 - (8 - (s + 1)) = s by omega]
theorem byte_shiftH (n s : Nat) : (n : Int) / 2 ^ (8 * s) % 256 = ((UInt8.ofNat (n / 256 ^ s)).toNat : Int) := by
  rw [UInt8.toNat_ofNat']
  have : (2 : Int) ^ (8 * s) = ((256 ^ s : Nat) : Int) := by
    rw [Int.pow_mul]
    simp
  rw [this]
  omega

/-- A byte of a number, and a digest's bytes. -/
def byteI (x : Int) (s : Nat) : UInt8 := UInt8.ofNat (x / 2 ^ (8 * s) % 256).toNat
theorem byteI_val (x : Int) (s : Nat) : x / 2 ^ (8 * s) % 256 = ((byteI x s).toNat : Int) := by
  unfold byteI
  rw [UInt8.toNat_ofNat']
  have h1 : 0 ≤ x / 2 ^ (8 * s) % 256 := Int.emod_nonneg _ (by decide)
  have h2 : x / 2 ^ (8 * s) % 256 < 256 := Int.emod_lt_of_pos _ (by decide)
  omega
def b4 (x : Int) (s : Nat) : List UInt8 := (List.range (4 - s)).map fun a => byteI x (3 - a)
theorem b4_step {x : Int} {s : Nat} (h : s < 4) : b4 x s = b4 x (s + 1) ++ [byteI x s] := by
  unfold b4
  rw [show 4 - s = (4 - (s + 1)) + 1 by omega, List.range_succ, List.map_append]
  simp only [List.map_cons, List.map_nil]
  rw [show 3 - (4 - (s + 1)) = s by omega]
def outB (N : List Int) (k : Nat) : List UInt8 := (N.take k).flatMap fun x => b4 x 0
theorem outB_succ {N : List Int} {k : Nat} {x : Int} (h : N[k]? = some x) : outB N (k + 1) = outB N k ++ b4 x 0 := by
  unfold outB
  rw [List.take_add_one, h]
  simp
theorem outB_len {N : List Int} {k : Nat} : (outB N k).length ≤ 4 * k := by
  unfold outB
  rw [List.length_flatMap]
  have : ∀ l : List Int, (l.map fun x => (b4 x 0).length).sum = 4 * l.length := by
    intro l
    induction l with
    | nil => rfl
    | cons y l ih => rw [List.map_cons, List.sum_cons, ih]; simp [b4]; omega
  rw [this, List.length_take]
  omega
def sumF (R now : List Int) (L : List UInt8) (t : Nat) : ByteArray := ⟨(outB (takeF R now (L ++ ((128 :: List.replicate (padK L.length) 0) ++ lenL t 0))).1 8).toArray⟩
theorem sumF_size {R now : List Int} {L : List UInt8} {t : Nat} (h8 : now.length = 8) : (sumF R now L t).size = 32 := by
  have hN8 := (takeF_len (R := R) (l := L ++ ((128 :: List.replicate (padK L.length) 0) ++ lenL t 0)) h8).1
  unfold sumF
  generalize (takeF R now (L ++ ((128 :: List.replicate (padK L.length) 0) ++ lenL t 0))).1 = N at hN8 ⊢
  obtain ⟨a0, a1, a2, a3, a4, a5, a6, a7, rfl⟩ := list8 hN8
  rfl
theorem idx8 (m0 m1 m2 m3 m4 m5 m6 m7 : Int) (k : Nat) (x : Int) (hk : k < 8) (hx : [m0, m1, m2, m3, m4, m5, m6, m7][k]? = some x) (W : World) :
    (Instr.index 127 (.agg #[.int .u32 m0, .int .u32 m1, .int .u32 m2, .int .u32 m3, .int .u32 m4, .int .u32 m5, .int .u32 m6, .int .u32 m7]) (.int .i64 (k : Int))).run Tryz.prog W = .ok (.int .u32 x) W := by
  rcases k with _ | _ | _ | _ | _ | _ | _ | _ | k
  case succ => omega
  all_goals (simp at hx; subst hx; kernel_rfl)
theorem Aside.below {b B : Nat} {w w' : World} (h : Aside b w w') (hB : B ≤ w.heap.size) (hb : B ≤ b) : Below B w w' :=
  ⟨h.os, h.tape, h.output, h.size, fun i hi => h.block i (Nat.lt_of_lt_of_le hi hB) (by omega)⟩

set_option maxRecDepth 100000 in
set_option maxHeartbeats 8000000 in
theorem sha_SumM (b g cR n c : Nat) (now R : List Int) (t : Nat) (A : Option Addr) (L : List UInt8) (w : World) (hq : w.heap[b]? = some (hObj now (.slice A n c) (t : Nat) (.slice (some ⟨g, 0, none⟩) 64 cR))) (h8 : now.length = 8)
    (hR : RowAt 1 u32Cell w w.heap.size (some ⟨g, 0, none⟩) 64 R) (hL : RowAt 1 byteCell w w.heap.size A n L) (hn : n < 64) (ht : t ≤ 1100000000) :
    Calls Tryz.prog 49 #[.pointer (some ⟨b, 0, none⟩)] w fun e w' => e = .returned (.string (sumF R now L t)) ∧ Below w.heap.size w w' := by
  obtain ⟨lb, z8, z9, z10, zf⟩ := hObj_tail hq h8
  have hcp := sha_Copy b g cR n c now R t A L w hq h8 hL (by omega)
  have hlg : g < w.heap.size := by
    obtain ⟨_, _, e, hlt, _⟩ := hR.2.2 (by decide)
    cases e
    exact hlt
  replace hR := Lib.hid hR
  clear hq hL z8 z10 zf
  go_enter Tryz.func49, Tryz.ntmps49
  go_wp2_with fail
  refine hcp.mono ?_
  rintro e w1 ⟨q, g2, rfl, hqw, hgw, hne, hqC, hLC, hb1⟩
  clear hcp
  have hR1 := Lib.hid (hR.out.to hb1)
  have y9 : w1.cell? ⟨b, 9, none⟩ = some (.int .i64 (t : Int)) := (hb1.cell (p := ⟨b, 9, none⟩) lb).trans z9
  obtain ⟨lq, c8, -, -, -⟩ := hObj_tail hqC h8
  replace hqC := Lib.hid hqC
  replace hLC := Lib.hid hLC
  have hz1 := hb1.size
  clear z9 hR
  have hO1 : u8E.Own (w1.alloc (.cells #[.int .u8 128] 5)) w1.heap.size (.slice (some ⟨w1.heap.size, 0, none⟩) 1 1) [128] :=
    ⟨rfl, .inr ⟨w1.heap.size, 1, #[.int .u8 128], rfl, Nat.le_refl _, heap_alloc_new w1 _, Nat.le_refl _, by decide, rfl, rfl⟩⟩
  have hB1 : Below w1.heap.size w1 (w1.alloc (.cells #[.int .u8 128] 5)) := (Below.refl _ w1).alloc (Nat.le_refl _) _
  replace hO1 := Lib.hid hO1
  go_wp2_with fail
  generalize w1.alloc (.cells #[.int .u8 128] 5) = w2 at hO1 hB1 ⊢
  go_loopw [4] (fun v wr => ∃ k : Nat, k ≤ padK n ∧ lenOfV v = k + 1 ∧ u8E.Own wr w1.heap.size v (128 :: List.replicate k 0) ∧ Below w1.heap.size w1 wr) (fun v _ => padK n + 1 - lenOfV v)
  case atStart => exact ⟨0, Nat.zero_le _, rfl, hO1.out, hB1⟩
  clear hO1 hB1
  obtain ⟨k, hk, hlv, ho, hbr⟩ := hrel
  obtain ⟨Av, cv, rfl⟩ := Owns.form ho
  have hll : (128 :: List.replicate k (0 : UInt8)).length = k + 1 := by simp
  rw [hll] at ho ⊢
  clear hlv hll
  obtain ⟨wp, rfl⟩ : ∃ x : World, x = wr := ⟨_, rfl⟩
  have c8p : wp.cell? ⟨q, 8, none⟩ = some (.slice (some ⟨g2, 0, none⟩) n n) := (hbr.cell (p := ⟨q, 8, none⟩) lq).trans c8
  have hzr := hbr.size
  have hpk : padK n < 64 := by unfold padK; omega
  by_cases hlt : k < padK n
  · have hgd := padK_no hlt
    have hgb : (((n : Int) + ((k : Int) + 1) + 8) % 64 != 0) = true := by simp; omega
    have hsn : Hid (128 :: List.replicate (k + 1) (0 : UInt8) = (128 :: List.replicate k 0) ++ [0]) := by unfold Hid; rw [List.replicate_succ']; rfl
    clear hgd
    go_wp2_with (at_builtin; go_must (refine Elem.wpList_one u8E rfl (.tmp 27) (.tmp 28) rfl w1.heap.size _ (128 :: List.replicate k 0) rfl _ _ (0 : UInt8) rfl (Owns.alloc ho _) (fun j u hu => by rcases j with _ | _ | _ | j <;> simp [u8E, byteCell] at hu <;> subst hu <;> go_simp) (by first | omega | (simp; omega)) (by first | omega | (simp; try omega)) ?_); intro v9 w9 hown9 hg9 hat9; have hbb9 : Below w1.heap.size w1 w9 := Below.grownOwn (by repeat (first | exact Below.refl _ _ | assumption | refine Below.drew ?_ | refine below_drewN ?_ _ | refine Below.alloc ?_ (by first | omega | (simp; try omega)) _ | refine Below.setCell ?_ (by first | omega | (simp; try omega)) _ | (refine Below.trans ?_ (Below.mono (by assumption) (by first | omega | (simp; try omega)))))) (Owns.alloc ho _) (Nat.le_refl _) (by first | omega | (simp; try omega)) hg9; have hzz9 := hbb9.size)
    rw [← hsn.out] at hown9
    obtain ⟨A9, c9, rfl⟩ := Owns.form hown9
    have hl9 : lenOfV (.slice A9 (128 :: List.replicate (k + 1) (0 : UInt8)).length c9) = k + 1 + 1 := by simp [lenOfV]
    have hl0 : lenOfV (.slice Av (k + 1) cv) = k + 1 := rfl
    refine ⟨⟨k + 1, by omega, hl9, hown9, hbb9⟩, ?_⟩
    rw [hl9, hl0]
    omega
  · obtain rfl : k = padK n := by omega
    have hgd := padK_at n
    have hgb : (((n : Int) + ((padK n : Int) + 1) + 8) % 64 != 0) = false := by simp; omega
    clear hgd
    replace ho := Lib.hid ho
    go_wp2_with fail
    go_loopw [4, 5] (fun v ti wr => ∃ s : Nat, s ≤ 8 ∧ ti = .int .i64 ((s : Int) - 1) ∧ u8E.Own wr w1.heap.size v ((128 :: List.replicate (padK n) 0) ++ lenL t s) ∧ Below w1.heap.size w1 wr) (fun _ ti _ => (intOf ti + 1).toNat)
    case atStart => exact ⟨8, Nat.le_refl _, rfl, by rw [lenL_8, List.append_nil]; exact ho.out, hbr⟩
    clear ho hbr c8p hgb hlt hk hzr
    obtain ⟨s, hs, rfl, ho, hbr⟩ := hrel
    obtain ⟨Ae, ce, rfl⟩ := Owns.form ho
    have hle : ((128 :: List.replicate (padK n) (0 : UInt8)) ++ lenL t s).length = padK n + 1 + (8 - s) := by simp [lenL]; omega
    obtain ⟨m, hm⟩ : ∃ m, m = padK n + 1 + (8 - s) := ⟨_, rfl⟩
    rw [hle, ← hm] at ho ⊢
    have hm80 : m ≤ 80 := by omega
    obtain ⟨wi, rfl⟩ : ∃ x : World, x = wr := ⟨_, rfl⟩
    have hzr := hbr.size
    cases s with
    | succ s =>
      have y9i : wi.cell? ⟨b, 9, none⟩ = some (.int .i64 (t : Int)) := (hbr.cell (p := ⟨b, 9, none⟩) (Nat.lt_of_lt_of_le lb hz1)).trans y9
      rw [show (((s + 1 : Nat) : Int) - 1) = (s : Int) by omega]
      have hs8 : s < 8 := by omega
      have hby : Hid ((t : Int) * 8 / 2 ^ (8 * s) % 256 = ((UInt8.ofNat (t * 8 / 256 ^ s)).toNat : Int)) := by
        have := byte_shiftH (t * 8) s
        unfold Hid
        rw [← this]
        simp
      have hst : Hid ((128 :: List.replicate (padK n) (0 : UInt8)) ++ lenL t s = ((128 :: List.replicate (padK n) 0) ++ lenL t (s + 1)) ++ [UInt8.ofNat (t * 8 / 256 ^ s)]) := by unfold Hid; rw [lenL_step hs8, List.append_assoc]
      replace hle := Lib.hid hle
      replace hm := Lib.hid hm
      have hy8 : Hid (∀ (j : Nat) (u : Value), (u8E.enc (UInt8.ofNat (t * 8 / 256 ^ s)))[j]? = some u → (wi.alloc (.cells #[.int .u8 ((t : Int) * 8 / 2 ^ (8 * s) % 256)] 5)).cell? ⟨wi.heap.size, j, none⟩ = some u) := by
        intro j u hu
        rcases j with _ | j
        · simp [u8E, byteCell] at hu
          subst hu
          exact (newCell _ _ _ _ _).trans (by rw [hby.out]; simp)
        · simp [u8E, byteCell] at hu
      clear hby
      go_wp2_with (at_builtin; go_must (refine Elem.wpList_one u8E rfl (.tmp 34) (.tmp 45) rfl w1.heap.size _ ((128 :: List.replicate (padK n) 0) ++ lenL t (s + 1)) rfl wi.heap.size 1 (UInt8.ofNat (t * 8 / 256 ^ s)) rfl (Owns.alloc ho _) hy8.out (by rw [hle.out]; omega) (by first | omega | (simp; try omega)) ?_); intro v9 w9 hown9 hg9 hat9; have hbb9 : Below w1.heap.size w1 w9 := Below.grownOwn (by repeat (first | exact Below.refl _ _ | assumption | refine Below.drew ?_ | refine below_drewN ?_ _ | refine Below.alloc ?_ (by first | omega | (simp; try omega)) _ | refine Below.setCell ?_ (by first | omega | (simp; try omega)) _ | (refine Below.trans ?_ (Below.mono (by assumption) (by first | omega | (simp; try omega)))))) (Owns.alloc ho _) (Nat.le_refl _) (by first | omega | (simp; try omega)) hg9)
      rw [← hst.out] at hown9
      go_roundw
      case rel => exact ⟨s, by omega, by go_num, hown9, hbb9⟩
      case measure => simp [intOf]
    | zero =>
      have hqi := (hbr.block q lq).trans hqC.out
      have hgq : g ≠ q := by omega
      have hRow : RowAt 1 byteCell wi wi.heap.size Ae m ((128 :: List.replicate (padK n) 0) ++ lenL t 0) := Owns.row (k := 1) (enc := byteCell) byteCell_len ho
      obtain ⟨D, hD⟩ : ∃ D, D = (128 :: List.replicate (padK n) 0) ++ lenL t 0 := ⟨_, rfl⟩
      obtain ⟨X, hX⟩ : ∃ X, X = takeF R now (L ++ D) := ⟨_, rfl⟩
      rw [← hD] at hRow
      have hTk := sha_take q g cR n n m ce now R (t : Int) (some ⟨g2, 0, none⟩) Ae L D wi hqi h8 (hR1.out.to hbr) hgq (hLC.out.to hbr) (fun x hx => by cases hx; exact hne) (Nat.le_refl _) hRow (by omega)
      have hN8 := (takeF_len (R := R) (l := L ++ D) h8).1
      rw [← hX] at hTk hN8
      have hsum : Hid (sumF R now L t = ⟨(outB X.1 8).toArray⟩) := by
        unfold Hid sumF
        rw [hX, hD, hLC.out.1]
      clear hX hD
      obtain ⟨N, N2⟩ := X
      dsimp only at hTk hN8 hsum
      have hbwi : Below w.heap.size w wi := hb1.trans (hbr.mono hz1)
      clear ho hqi hRow hle hm hs hm80 hgq hpk
      rw [show (((0 : Nat) : Int) - 1) = -1 by omega]
      go_wp2_with fail
      refine hTk.mono ?_
      rintro e w5 ⟨rfl, hA5, A5, n5, c5, hq5, -, -, -⟩
      have hb5 : Below w.heap.size w w5 := hbwi.trans (hA5.below hbwi.size hqw)
      clear hTk hA5 hbwi hbr hzr hR1 y9 c8 hqC hLC lq hne hgw
      obtain ⟨m0, m1, m2, m3, m4, m5, m6, m7, rfl⟩ := list8 hN8
      have lq5 : q < w5.heap.size := (Array.getElem?_eq_some_iff.1 hq5).1
      have z0 : w5.cell? ⟨q, 0, none⟩ = some (.int .u32 m0) := (cell_of_row w5 q 0 _ _ _ hq5).trans rfl
      have z1 : w5.cell? ⟨q, 1, none⟩ = some (.int .u32 m1) := (cell_of_row w5 q 1 _ _ _ hq5).trans rfl
      have z2 : w5.cell? ⟨q, 2, none⟩ = some (.int .u32 m2) := (cell_of_row w5 q 2 _ _ _ hq5).trans rfl
      have z3 : w5.cell? ⟨q, 3, none⟩ = some (.int .u32 m3) := (cell_of_row w5 q 3 _ _ _ hq5).trans rfl
      have z4 : w5.cell? ⟨q, 4, none⟩ = some (.int .u32 m4) := (cell_of_row w5 q 4 _ _ _ hq5).trans rfl
      have z5 : w5.cell? ⟨q, 5, none⟩ = some (.int .u32 m5) := (cell_of_row w5 q 5 _ _ _ hq5).trans rfl
      have z6 : w5.cell? ⟨q, 6, none⟩ = some (.int .u32 m6) := (cell_of_row w5 q 6 _ _ _ hq5).trans rfl
      have z7 : w5.cell? ⟨q, 7, none⟩ = some (.int .u32 m7) := (cell_of_row w5 q 7 _ _ _ hq5).trans rfl
      have hBl := Lib.hid (Bld.fresh w5)
      have hb6 : Below w5.heap.size w5 (w5.alloc (.cells #[.pointer none, .slice none 0 0] 136)) := (Below.refl _ w5).alloc (Nat.le_refl _) _
      clear hq5 hN8
      go_wp2_with fail
      clear z0 z1 z2 z3 z4 z5 z6 z7
      obtain ⟨B, hB⟩ : ∃ B, B = w5.heap.size := ⟨_, rfl⟩
      rw [← hB] at hBl hb6 lq5 ⊢
      replace hB := Lib.hid hB
      generalize w5.alloc (.cells #[.pointer none, .slice none 0 0] 136) = w6 at hBl hb6 ⊢
      have hidx := idx8 m0 m1 m2 m3 m4 m5 m6 m7
      obtain ⟨NN, hNN⟩ : ∃ NN, NN = [m0, m1, m2, m3, m4, m5, m6, m7] := ⟨_, rfl⟩
      rw [← hNN] at hsum
      have hNl : NN.length = 8 := by rw [hNN]; rfl
      go_loopw [8, 9, 54] (fun _ _ ti wr => ∃ k : Nat, k ≤ 8 ∧ ti = .int .i64 k ∧ Bld B B (outB NN k) wr ∧ Below B w5 wr ∧ B ≤ wr.heap.size) (fun _ _ ti _ => 8 - (intOf ti).toNat)
      case atStart => exact ⟨0, Nat.zero_le _, rfl, hBl.out, hb6, by have := hb6.size; rw [hB.out]; exact this⟩
      clear hBl hb6
      obtain ⟨k, hk, rfl, hBl, hb6, hBw⟩ := hrel
      obtain ⟨wj, rfl⟩ : ∃ x : World, x = wr := ⟨_, rfl⟩
      by_cases hk8 : k < 8
      · obtain ⟨x, hx⟩ : ∃ x, NN[k]? = some x := getElem_some (by rw [hNl]; exact hk8)
        have hi8 := hidx k x hk8 (by rw [← hNN]; exact hx)
        have hob : Hid (outB NN (k + 1) = outB NN k ++ b4 x 0) := Lib.hid (outB_succ hx)
        have hln := outB_len (N := NN) (k := k)
        have hd8 : decide ((k : Int) < 8) = true := by simp; omega
        clear hidx hx hNN hNl
        replace hBl := Lib.hid hBl
        go_wp2_with fail
        replace hd8 := Lib.hid hd8
        go_loopw [9] (fun ti wr => ∃ s : Nat, s ≤ 4 ∧ ti = .int .i64 ((s : Int) - 1) ∧ Bld B B (outB NN k ++ b4 x s) wr ∧ Below B w5 wr ∧ B ≤ wr.heap.size) (fun ti _ => (intOf ti + 1).toNat)
        case atStart => exact ⟨4, Nat.le_refl _, rfl, by rw [show b4 x 4 = [] from rfl, List.append_nil]; exact hBl.out, hb6, hBw⟩
        clear hBl hb6 hBw hi8
        obtain ⟨s, hs, rfl, hBl, hb6, hBw⟩ := hrel
        obtain ⟨wk, rfl⟩ : ∃ x : World, x = wr := ⟨_, rfl⟩
        cases s with
        | succ s =>
          rw [show (((s + 1 : Nat) : Int) - 1) = (s : Int) by omega]
          have hs4 : s < 4 := by omega
          have hst : Hid (outB NN k ++ b4 x s = (outB NN k ++ b4 x (s + 1)) ++ [byteI x s]) := by unfold Hid; rw [b4_step hs4, List.append_assoc]
          have hW := builder_WriteByte B B (outB NN k ++ b4 x (s + 1)) (byteI x s) wk hBl (by simp [b4]; omega) hBw
          rw [← byteI_val] at hW
          clear hBl
          go_wp2_with fail
          refine hW.mono ?_
          rintro e w7 ⟨rfl, hB7, hb7⟩
          replace hB7 := Lib.hid hB7
          go_wp2_with fail
          go_roundw
          case rel => exact ⟨s, by omega, by go_num, by rw [hst.out]; exact hB7.out, hb6.trans hb7, Nat.le_trans hBw hb7.size⟩
          case measure => simp [intOf]
        | zero =>
          rw [show (((0 : Nat) : Int) - 1) = -1 by omega]
          replace hBl := Lib.hid hBl
          go_wp2_with fail
          go_roundw
          case rel => exact ⟨k + 1, by omega, by go_num, by rw [hob.out]; exact hBl.out, hb6, hBw⟩
          case measure => simp [intOf]; omega
      · obtain rfl : k = 8 := by omega
        have hS := builder_String B B (outB NN 8) wj hBl hBw
        clear hBl hidx hNN hNl hk hk8
        go_wp2_with fail
        refine hS.mono ?_
        rintro e w8 ⟨rfl, hb8⟩
        go_wp2_with fail
        go_ret
        exact ⟨by rw [hsum.out]; rfl, hb5.trans ((hb6.trans hb8).mono (by rw [hB.out]; exact hb5.size))⟩
end Go.Proofs.YtdhlmhkabckbaaaGreatDoor

/-
  Package sha: the digest of bytes is a function of them, of 32 bytes.
-/
namespace Go.Proofs.YtdhlmhkabckbaaaGreatDoor
open Go.RowKit

/-- The digest of bytes. -/
def shaS (x : ByteArray) : ByteArray := sumF (roots0 64) (takeF (roots0 64) (now0 64) (bl x)).1 (takeF (roots0 64) (now0 64) (bl x)).2 x.size
theorem shaS_size (x : ByteArray) : (shaS x).size = 32 := sumF_size (takeF_len (now0_len 64)).1

set_option maxRecDepth 100000 in
set_option maxHeartbeats 2000000 in
theorem sha_Sum (x : ByteArray) (hx : x.size ≤ 100000000) (w : World) :
    Calls Tryz.prog 22 #[.string x] w fun e w' => e = .returned (.string (shaS x)) ∧ Below w.heap.size w w' := by
  go_enter Tryz.func22, Tryz.ntmps22
  go_wp2_with fail
  refine (sha_New w).mono ?_
  rintro e w1 ⟨b, v, rfl, hbw, hq, hoR, hb1⟩
  have hlR : (roots0 64).length = 64 := roots0_len (Nat.le_refl _)
  obtain ⟨g, cR, rfl, hg1, hgb⟩ : ∃ g cR, v = .slice (some ⟨g, 0, none⟩) 64 cR ∧ g < w1.heap.size ∧ g ≠ b := by
    have ho := hoR
    rcases ho.2 with ⟨e, h0⟩ | ⟨g, cap, cur, rfl, hg, hh, -⟩
    · rw [hlR] at h0; cases h0
    · refine ⟨g, cap, by rw [hlR], (Array.getElem?_eq_some_iff.1 hh).1, fun e => ?_⟩
      subst e
      rw [hq] at hh
      simp [hObj, u32E] at hh
  have hR : RowAt 1 u32Cell w1 w1.heap.size (some ⟨g, 0, none⟩) 64 (roots0 64) := Owns.row (k := 1) (enc := u32Cell) (fun _ => rfl) hoR
  have hAdd := sha_Add b g cR 0 0 (now0 64) (roots0 64) 0 none [] x w1 hq (now0_len 64) hR hgb RowAt.none_ (fun _ h => by cases h) (Nat.le_refl _) (by omega) (by omega) hx
  rw [List.nil_append] at hAdd
  have h8 := (takeF_len (R := roots0 64) (l := bl x) (now0_len 64))
  have hS : Hid (shaS x = sumF (roots0 64) (takeF (roots0 64) (now0 64) (bl x)).1 (takeF (roots0 64) (now0 64) (bl x)).2 x.size) := rfl
  obtain ⟨X, hX⟩ : ∃ X, X = takeF (roots0 64) (now0 64) (bl x) := ⟨_, rfl⟩
  rw [← hX] at hAdd h8 hS
  clear hX
  obtain ⟨N, L⟩ := X
  dsimp only at hAdd h8 hS
  obtain ⟨h8, hL64⟩ := h8
  generalize roots0 64 = R at hR hAdd hS
  clear hq hoR hlR
  go_wp2_with fail
  refine hAdd.mono ?_
  rintro e w2 ⟨rfl, hA2, A', n', c', hq2, hL2, hb2, hnc2⟩
  clear hAdd
  have hR2 : RowAt 1 u32Cell w2 w2.heap.size (some ⟨g, 0, none⟩) 64 R := hR.asideAt (fun y hy _ => by cases hy; exact hA2.block g hg1 hgb) hA2.size
  have hn' : n' < 64 := by have := hL2.1; omega
  have hbw2 : Below w.heap.size w w2 := hb1.trans (hA2.below hb1.size hbw)
  have hSm := sha_SumM b g cR n' c' N R x.size A' L w2 (by rw [hq2]; simp) h8 hR2 hL2 hn' (by omega)
  clear hR hA2 hq2 hL2 hR2 hb2 hb1
  go_wp2_with fail
  refine hSm.mono ?_
  rintro e w3 ⟨rfl, hb3⟩
  rw [← hS.out]
  go_wp2_with fail
  go_ret
  exact ⟨rfl, hbw2.trans (hb3.mono hbw2.size)⟩
end Go.Proofs.YtdhlmhkabckbaaaGreatDoor
