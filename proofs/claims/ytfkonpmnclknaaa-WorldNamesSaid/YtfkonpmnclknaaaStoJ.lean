/-
  Strike by the faults that take objects away, or bend one.
-/
import Derived.Test.YtfkonpmnclknaaaStoI
import Derived.Test.YtfkonpmnclknaaaBytes
import Derived.Lib.ConvBytes
import Derived.Test.YtfkonpmnclknaaaTail
namespace Go.Proofs.Ytfkonpmnclknaaa
open Go.RowKit Go.Maps
attribute [local go_sem ↓] Go.wp_at_zero Go.wp_at_succ

theorem below_bytesS (w : World) (e : TypeId) (s : ByteArray) : Below w.heap.size w (Lib.bytesWorld w e s) :=
  ⟨rfl, rfl, rfl, by rw [Lib.bytesWorld_size]; omega, fun i hi => Lib.bytesWorld_at_old w e s i hi⟩
theorem bytes_rowS (w : World) (e : TypeId) (s : ByteArray) (h : s.size ≤ 9223372036854775807) : BytesAt (Lib.bytesWorld w e s) (w.heap.size + 1) (some ⟨w.heap.size, 0, none⟩) s.size (bl s) := by
  refine ⟨Array.length_toList, h, fun _ => ⟨_, _, rfl, by omega, fun i x hx j v hv => ?_⟩⟩
  have hi : i < s.size := by
    have := (List.getElem?_eq_some_iff.1 hx).1
    rw [show (bl s).length = s.size from Array.length_toList] at this
    exact this
  match j, hv with
  | 0, hv =>
    simp [byteCell] at hv
    subst hv
    have := Lib.bytesWorld_cell w e s i hi
    rw [List.getD_eq_getElem?_getD, hx] at this
    simpa using this
  | j + 1, hv => simp [byteCell] at hv

theorem StoTo.of_in {b gm sm N M : Nat} {V : Value} {s : Sto} {w w' : World} {F : List Nat} (hF : F = b :: gm :: sm :: V.ownBlock.toList) (h : StoIn w' b gm sm V M s) (hb : But F w w') : StoTo b F M s w w' := by
  subst hF
  exact ⟨_, ⟨gm, sm, V, rfl, h⟩, hb, fun i hi => .inl hi⟩

theorem StoTo.after {b M : Nat} {F : List Nat} {s : Sto} {w w1 w2 : World} (hb : But F w w1) (h : StoTo b F M s w1 w2) : StoTo b F M s w w2 := by
  obtain ⟨F', h1, h2, h3⟩ := h
  exact ⟨F', h1, hb.trans h2 (fun i hi => .inl hi), fun i hi => (h3 i hi).imp id fun e => Nat.le_trans hb.size e⟩

set_option maxHeartbeats 1000000 in
theorem fault_wipe (b : Nat) (F : List Nat) (N : Nat) (s : Sto) (f : Flt) (w : World) (h : StoAt w b F N s) :
    Calls Try.prog 85 #[.pointer (some ⟨b, 0, none⟩), f.agg] w fun e w' => e = .returned (.tuple #[]) ∧ StoTo b F N ({ s with seen := [] } : Sto).settled w w' := by
  obtain ⟨gm, sm, V, rfl, h⟩ := h
  have hA : Below w.heap.size w (w.alloc f.box) := (Below.refl _ w).alloc (Nat.le_refl _) _
  have h1 := h.alloc f.box
  obtain ⟨c0, c1, c2, c3, c4, c5⟩ := h1.box.cells
  have hms := h1.seen
  have hlt := h.box.lt
  unfold Flt.box at *
  unfold Flt.agg
  replace h1 := Lib.hid h1
  clear h
  go_enter Try.func85, Try.ntmps85
  go_upto_region 1 with fail
  generalize (w.alloc (.cells #[.int .u8 f.kind, .int .i64 f.store, .int .i64 f.n, .int .i64 f.at_, .int .i64 f.c] 33)) = w0 at hA h1 c0 c1 c2 c3 c4 c5 hms ⊢
  go_wp2_with (refine wpList_obs_clear _ rfl _ rfl sm N s.seen rfl hms ?_; intro w3 hm3 hg3)
  have h3 := h1.out.seenTo hm3 hg3 (by simp) (Nat.le_refl _) h1.out.cap
  refine (store_settle b _ N _ w3 ⟨gm, sm, V, rfl, h3⟩).mono ?_
  rintro e w4 ⟨rfl, hto⟩
  have hbut : But (b :: gm :: sm :: V.ownBlock.toList) w w3 := (But.of_below hA).trans (But.of_grown (F := [sm]) hg3 (by simp)) (by simp)
  have hfin := Lib.hid (hto.after hbut)
  go_wp2_with fail
  go_end0
  exact ⟨rfl, hfin.out⟩

/-- The object that a fault strikes. -/
def Sto.hit (s : Sto) (n : Int) : Option Ob := s.seen[(n % (s.seen.length : Int)).toNat]?
theorem rest_vals {n : Int} {m : Nat} (h0 : 0 ≤ n) (hm : 0 < m) : ∃ q : Nat, q < m ∧ (n % (m : Int)).toNat = q ∧ Value.int .i64 (n.tmod (m : Int)) = Value.int .i64 q := by
  refine ⟨(n % (m : Int)).toNat, ?_, rfl, ?_⟩
  · have h1 := Int.emod_lt_of_pos n (b := (m : Int)) (by omega)
    have h2 := Int.emod_nonneg n (b := (m : Int)) (by omega)
    omega
  · have h2 := Int.emod_nonneg n (b := (m : Int)) (by omega)
    rw [Int.tmod_eq_emod_of_nonneg h0, Int.toNat_of_nonneg h2]

set_option maxHeartbeats 1000000 in
theorem store_struck (b : Nat) (F : List Nat) (N : Nat) (s : Sto) (f : Flt) (h0 : 0 ≤ f.n) (w : World) (h : StoAt w b F N s) :
    Calls Try.prog 96 #[.pointer (some ⟨b, 0, none⟩), f.agg] w fun e w' => e = .returned (.tuple #[.string (((s.hit f.n).map Prod.fst).getD ⟨#[]⟩), .bool (s.hit f.n).isSome]) ∧ Below w.heap.size w w' := by
  have hA : Below w.heap.size w (w.alloc f.box) := (Below.refl _ w).alloc (Nat.le_refl _) _
  have hk := fun W (hW : StoAt W b F N s) => store_names b F N s W hW
  have h1 := h.below hA
  have x2 : (w.alloc f.box).cell? ⟨w.heap.size, 2, none⟩ = some (.int .i64 f.n) := newCell _ _ _ _ _
  have hz0 : (w.alloc f.box).heap.size = w.heap.size + 1 := by simp
  have hlen : s.seen.length ≤ 1000000 := by obtain ⟨_, _, _, _, h⟩ := h; exact Nat.le_trans h.seen.len h.cap
  replace hk := Lib.hid hk
  unfold Flt.box at *
  unfold Flt.agg
  replace h1 := Lib.hid h1
  clear h
  go_enter Try.func96, Try.ntmps96
  go_upto_region 1 with fail
  generalize (w.alloc (.cells #[.int .u8 f.kind, .int .i64 f.store, .int .i64 f.n, .int .i64 f.at_, .int .i64 f.c] 33)) = w0 at hA h1 x2 hz0 ⊢
  go_wp2_with fail
  refine (hk.out w0 h1.out).mono ?_
  rintro e w1 ⟨v, rfl, ho, hb⟩
  have y2 := (hb.cell (p := ⟨w.heap.size, 2, none⟩) (by simp; omega)).trans x2
  have hbw : Below w.heap.size w w1 := hA.trans (hb.mono (by omega))
  obtain ⟨m, hm⟩ : ∃ m, m = s.seen.length := ⟨_, rfl⟩
  obtain ⟨A, c, rfl⟩ : ∃ A c, v = .slice A m c := by obtain ⟨A, c, e⟩ := Owns.form ho; exact ⟨A, c, by rw [e, hm, List.length_map]⟩
  have rn := ho.row strCell_len
  by_cases hm0 : m = 0
  · have hhit : Hid (s.hit f.n = none) := by
      unfold Hid Sto.hit
      rw [List.eq_nil_of_length_eq_zero (hm.symm.trans hm0)]
      rfl
    subst hm0
    replace hm := Lib.hid hm
    go_wp2_with fail
    go_ret2
    exact ⟨by rw [hhit.out]; rfl, hbw⟩
  · obtain ⟨q, hq, hqe, hqv⟩ := rest_vals (n := f.n) (m := m) h0 (by omega)
    obtain ⟨b0, off, x, rfl, hb0, hx, q0⟩ := rn.str hq
    obtain ⟨p, hp⟩ : ∃ p, s.seen[q]? = some p := ⟨_, List.getElem?_eq_getElem (by omega)⟩
    have hhit : Hid (s.hit f.n = some p) := by
      unfold Hid Sto.hit
      rw [← hm, hqe]
      exact hp
    have hxe : Hid (x = p.1) := by
      unfold Hid
      rw [List.getElem?_map, hp] at hx
      simpa using hx.symm
    replace hp := Lib.hid hp
    have hmne : ((m : Int) == 0) = false := by simp; omega
    have hqm : (q : Int) < (m : Int) := by omega
    replace hx := Lib.hid hx
    replace hm := Lib.hid hm
    replace hqe := Lib.hid hqe
    go_wp2_with fail
    go_ret2
    exact ⟨by rw [hhit.out, hxe.out]; rfl, hbw⟩

def Sto.lost (s : Sto) (n : Int) : Sto := match s.hit n with
  | none => s.settled
  | some p => ({ s with seen := delO s.seen p.1 } : Sto).settled
def bentB (d : ByteArray) (a c : Int) : ByteArray := str ((bl d).set (a % (d.size : Int)).toNat (UInt8.ofNat c.toNat))
def Sto.bent (s : Sto) (n a c : Int) : Sto := match s.hit n with
  | none => s.settled
  | some p => if p.2.size = 0 then s.settled else ({ s with seen := putO s.seen (p.1, bentB p.2 a c) } : Sto).settled
theorem hit_mem {s : Sto} {n : Int} {p : Ob} (h : s.hit n = some p) : p ∈ s.seen := List.mem_of_getElem? h

set_option maxHeartbeats 2000000 in
theorem fault_lose (b : Nat) (F : List Nat) (N : Nat) (s : Sto) (f : Flt) (h0 : 0 ≤ f.n) (w : World) (h : StoAt w b F N s) :
    Calls Try.prog 86 #[.pointer (some ⟨b, 0, none⟩), f.agg] w fun e w' => e = .returned (.tuple #[]) ∧ StoTo b F N (s.lost f.n) w w' := by
  obtain ⟨gm, sm, V, hF, h⟩ := h
  have hA : Below w.heap.size w (w.alloc f.box) := (Below.refl _ w).alloc (Nat.le_refl _) _
  have h1 := h.alloc f.box
  have hk := fun W (hW : StoAt W b F N s) => store_struck b F N s f h0 W hW
  have x0 : (w.alloc f.box).cell? ⟨w.heap.size, 0, none⟩ = some (.int .u8 f.kind) := newCell _ _ _ _ _
  have x1 : (w.alloc f.box).cell? ⟨w.heap.size, 1, none⟩ = some (.int .i64 f.store) := newCell _ _ _ _ _
  have x2 : (w.alloc f.box).cell? ⟨w.heap.size, 2, none⟩ = some (.int .i64 f.n) := newCell _ _ _ _ _
  have x3 : (w.alloc f.box).cell? ⟨w.heap.size, 3, none⟩ = some (.int .i64 f.at_) := newCell _ _ _ _ _
  have x4 : (w.alloc f.box).cell? ⟨w.heap.size, 4, none⟩ = some (.int .i64 f.c) := newCell _ _ _ _ _
  have hlt := h.box.lt
  unfold Flt.box at *
  unfold Flt.agg at *
  replace hk := Lib.hid hk
  replace hF := Lib.hid hF
  replace h1 := Lib.hid h1
  clear h
  go_enter Try.func86, Try.ntmps86
  go_upto_region 1 with fail
  generalize (w.alloc (.cells #[.int .u8 f.kind, .int .i64 f.store, .int .i64 f.n, .int .i64 f.at_, .int .i64 f.c] 33)) = w0 at hA h1 x0 x1 x2 x3 x4 ⊢
  go_wp2_with fail
  refine (hk.out w0 ⟨gm, sm, V, hF.out, h1.out⟩).mono ?_
  rintro e w1 ⟨rfl, hb⟩
  have h2 := h1.out.block fun i hi => hb.block i (h1.out.lt i hi)
  obtain ⟨c0, c1, c2, c3, c4, c5⟩ := h2.box.cells
  have hms := h2.seen
  have hbw : Below w.heap.size w w1 := hA.trans (hb.mono hA.size)
  clear x0 x1 x2 x3 x4
  cases hx : s.hit f.n with
  | none =>
    have hr : Hid (s.lost f.n = s.settled) := by unfold Hid Sto.lost; rw [hx]
    simp only [Option.map_none, Option.getD_none, Option.isSome_none]
    replace hx := Lib.hid hx
    replace h2 := Lib.hid h2
    go_wp2_with fail
    refine (store_settle b _ N _ w1 ⟨gm, sm, V, rfl, h2.out⟩).mono ?_
    rintro e w4 ⟨rfl, hto⟩
    have hfin := Lib.hid (hto.after (But.of_below hbw))
    go_wp2_with fail
    go_end0
    exact ⟨rfl, by rw [hr.out, hF.out]; exact hfin.out⟩
  | some p =>
    have hr : Hid (s.lost f.n = ({ s with seen := delO s.seen p.1 } : Sto).settled) := by unfold Hid Sto.lost; rw [hx]
    have hp : p.1.size ≤ maxLen := Nat.le_trans (h2.ns p (hit_mem hx)).1 (by decide)
    simp only [Option.map_some, Option.getD_some, Option.isSome_some]
    replace hx := Lib.hid hx
    have h2' := Lib.hid h2
    clear h2
    go_wp2_with (at_delete; go_must (refine wpList_obs_del _ rfl _ _ rfl sm N s.seen rfl hms p.1 rfl hp ?_); intro w3 hm3 hg3)
    have h3 := h2'.out.seenTo hm3 hg3 (fun y hy => h2'.out.ns y (delO_mem.1 hy).1) (Nat.le_refl _) h2'.out.cap
    refine (store_settle b _ N _ w3 ⟨gm, sm, V, rfl, h3⟩).mono ?_
    rintro e w4 ⟨rfl, hto⟩
    have hbut : But (b :: gm :: sm :: V.ownBlock.toList) w w3 := (But.of_below hbw).trans (But.of_grown (F := [sm]) hg3 (by simp)) (by simp)
    have hfin := Lib.hid (hto.after hbut)
    go_wp2_with fail
    go_end0
    exact ⟨rfl, by rw [hr.out, hF.out]; exact hfin.out⟩

theorem bentB_size (d : ByteArray) (a c : Int) : (bentB d a c).size = d.size := by
  unfold bentB str
  show ((bl d).set _ _).toArray.size = d.size
  rw [List.size_toArray, List.length_set]
  exact Array.length_toList
theorem ofNat_u8 {c : Int} (h0 : 0 ≤ c) (h1 : c ≤ 255) : Value.int .u8 c = .int .u8 ((UInt8.ofNat c.toNat).toNat : Nat) := by
  have : (UInt8.ofNat c.toNat).toNat = c.toNat := by
    rw [UInt8.toNat_ofNat']
    omega
  rw [this, Int.toNat_of_nonneg h0]
theorem BytesAt.setAt {w : World} {B b off n i : Nat} {l : List UInt8} (h : BytesAt w B (some ⟨b, off, none⟩) n l) (hi : i < n) {c : Int} (h0 : 0 ≤ c) (h1 : c ≤ 255) :
    BytesAt (w.setCell ⟨b, off + i, none⟩ (.int .u8 c)) B (some ⟨b, off, none⟩) n (l.set i (UInt8.ofNat c.toNat)) := by
  obtain ⟨hl, h9, hc⟩ := h
  refine ⟨by rw [List.length_set]; exact hl, h9, fun hn => ?_⟩
  obtain ⟨b', off', e, hb, hc⟩ := hc hn
  cases e
  refine ⟨b, off, rfl, hb, fun k x hx j v hv => ?_⟩
  obtain rfl : j = 0 := by have := (List.getElem?_eq_some_iff.1 hv).1; simpa [byteCell] using this
  simp [byteCell] at hv
  subst hv
  by_cases hk : k = i
  · subst hk
    have hkl : k < l.length := by omega
    rw [List.getElem?_set_self hkl] at hx
    obtain rfl := Option.some.inj hx
    have hold := hc k l[k] (List.getElem?_eq_getElem hkl) 0 _ rfl
    have e1 : (⟨b, off + k * 1 + 0, none⟩ : Addr) = ⟨b, off + k, none⟩ := by simp
    rw [e1] at hold ⊢
    rw [World.cell?_setCell_same' _ _ _ (by rw [hold]; rfl), ofNat_u8 h0 h1]
  · rw [List.getElem?_set_ne (fun e => hk e.symm)] at hx
    rw [World.cell?_setCell_other]
    · exact hc k x hx 0 _ rfl
    · intro e
      simp at e <;> omega

set_option maxHeartbeats 4000000 in
set_option maxRecDepth 100000 in
theorem fault_bend (b : Nat) (F : List Nat) (N : Nat) (s : Sto) (f : Flt) (h0 : 0 ≤ f.n) (ha0 : 0 ≤ f.at_) (hc0 : 0 ≤ f.c) (hc1 : f.c ≤ 255) (hN : N + 1 ≤ 1000000) (w : World) (h : StoAt w b F N s) :
    Calls Try.prog 87 #[.pointer (some ⟨b, 0, none⟩), f.agg] w fun e w' => e = .returned (.tuple #[]) ∧ StoTo b F (N + 1) (s.bent f.n f.at_ f.c) w w' := by
  obtain ⟨gm, sm, V, hF, h⟩ := h
  have hA : Below w.heap.size w (w.alloc f.box) := (Below.refl _ w).alloc (Nat.le_refl _) _
  have h1 := h.alloc f.box
  have hk := fun W (hW : StoAt W b F N s) => store_struck b F N s f h0 W hW
  have x0 : (w.alloc f.box).cell? ⟨w.heap.size, 0, none⟩ = some (.int .u8 f.kind) := newCell _ _ _ _ _
  have x1 : (w.alloc f.box).cell? ⟨w.heap.size, 1, none⟩ = some (.int .i64 f.store) := newCell _ _ _ _ _
  have x2 : (w.alloc f.box).cell? ⟨w.heap.size, 2, none⟩ = some (.int .i64 f.n) := newCell _ _ _ _ _
  have x3 : (w.alloc f.box).cell? ⟨w.heap.size, 3, none⟩ = some (.int .i64 f.at_) := newCell _ _ _ _ _
  have x4 : (w.alloc f.box).cell? ⟨w.heap.size, 4, none⟩ = some (.int .i64 f.c) := newCell _ _ _ _ _
  have hz0 : (w.alloc f.box).heap.size = w.heap.size + 1 := by simp
  have hlt := h.box.lt
  unfold Flt.box at *
  unfold Flt.agg at *
  obtain ⟨kind, store, n, at_, c⟩ := f
  dsimp only at *
  replace hk := Lib.hid hk
  replace hF := Lib.hid hF
  replace h1 := Lib.hid h1
  clear h
  go_enter Try.func87, Try.ntmps87
  go_upto_region 1 with fail
  generalize (w.alloc (.cells #[.int .u8 kind, .int .i64 store, .int .i64 n, .int .i64 at_, .int .i64 c] 33)) = w0 at hA h1 x0 x1 x2 x3 x4 hz0 ⊢
  go_wp2_with fail
  refine (hk.out w0 ⟨gm, sm, V, hF.out, h1.out⟩).mono ?_
  rintro e w1 ⟨rfl, hb⟩
  have h2 := h1.out.block fun i hi => hb.block i (h1.out.lt i hi)
  obtain ⟨c0, c1, c2, c3, c4, c5⟩ := h2.box.cells
  have hbw : Below w.heap.size w w1 := hA.trans (hb.mono hA.size)
  have y3 := (hb.cell (p := ⟨w.heap.size, 3, none⟩) (by simp; omega)).trans x3
  have y4 := (hb.cell (p := ⟨w.heap.size, 4, none⟩) (by simp; omega)).trans x4
  have hzw : w.heap.size < w1.heap.size := by have := hb.size; omega
  clear x0 x1 x2 x3 x4
  cases hx : s.hit n with
  | none =>
    have hr : Hid (s.bent n at_ c = s.settled) := by unfold Hid Sto.bent; rw [hx]
    simp only [Option.map_none, Option.getD_none, Option.isSome_none]
    replace hx := Lib.hid hx
    replace h2 := Lib.hid h2
    go_wp2_with fail
    refine (store_settle b _ N _ w1 ⟨gm, sm, V, rfl, h2.out⟩).mono ?_
    rintro e w4 ⟨rfl, hto⟩
    have hfin := Lib.hid ((hto.after (But.of_below hbw)).more (Nat.le_succ _) hN)
    go_wp2_with fail
    go_end0
    exact ⟨rfl, by rw [hr.out, hF.out]; exact hfin.out⟩
  | some p =>
    have hok := h2.ns p (hit_mem hx)
    have hlo := mem_lookO h2.seen.rise (hit_mem hx)
    have hp : p.1.size ≤ maxLen := Nat.le_trans hok.1 (by decide)
    have hL : (Instr.lookup 66 (.map (some sm)) (.string p.1) false).run Try.prog w1 = .ok (.string p.2) w1 := by
      have := h2.seen.look p.1 hp 0
      rw [hlo] at this
      exact this
    simp only [Option.map_some, Option.getD_some, Option.isSome_some]
    have h2' := Lib.hid h2
    clear h2
    by_cases hd : p.2.size = 0
    · have hr : Hid (s.bent n at_ c = s.settled) := by unfold Hid Sto.bent; rw [hx]; simp [hd]
      have e0 := str_empty hd
      replace hx := Lib.hid hx
      replace hd := Lib.hid hd
      go_wp2_with fail
      refine (store_settle b _ N _ w1 ⟨gm, sm, V, rfl, h2'.out⟩).mono ?_
      rintro e w4 ⟨rfl, hto⟩
      have hfin := Lib.hid ((hto.after (But.of_below hbw)).more (Nat.le_succ _) hN)
      go_wp2_with fail
      go_end0
      exact ⟨rfl, by rw [hr.out, hF.out]; exact hfin.out⟩
    · have hr : Hid (s.bent n at_ c = ({ s with seen := putO s.seen (p.1, bentB p.2 at_ c) } : Sto).settled) := by unfold Hid Sto.bent; rw [hx]; simp [hd]
      have e0 := str_some hd
      have hcv := Lib.run_convert_string_bytes (P := Try.prog) w1 9 91 5 p.2 Try.underlying9 Try.underlying91 Try.underlying5
      have hrow := bytes_rowS w1 5 p.2 (by have := hok.2; omega)
      have hbb := below_bytesS w1 5 p.2
      have hz1 : (Lib.bytesWorld w1 5 p.2).heap.size = w1.heap.size + 1 := Lib.bytesWorld_size _ _ _
      obtain ⟨q, hq, hqe, hqv⟩ := rest_vals (n := at_) (m := p.2.size) ha0 (by omega)
      have hfz : (Lib.bytesWorld w1 5 p.2).frozen? ⟨w1.heap.size, q, none⟩ = false := by
        simp only [World.frozen?, Lib.bytesWorld_at_new]
        simp [Lib.bytesCells]
        omega
      have hcap : p.2.size ≤ grownCap w1 p.2.size 0 5 := grownCap_ge _ _ _ _
      obtain ⟨cp, hcp⟩ : ∃ cp, cp = grownCap w1 p.2.size 0 5 := ⟨_, rfl⟩
      rw [← hcp] at hcv hcap
      replace hcp := Lib.hid hcp
      generalize Lib.bytesWorld w1 5 p.2 = w2 at hcv hrow hbb hz1 hfz
      have h3 := h2'.out.block fun i hi => hbb.block i (h2'.out.lt i hi)
      have hlw1 : b < w1.heap.size := h2'.out.box.lt
      have hlsm : sm < w1.heap.size := h2'.out.seen.lt
      replace hd := Lib.hid hd
      replace hx := Lib.hid hx
      go_upto_region 4 with fail
      have zz3 := (hbb.cell (p := ⟨w.heap.size, 3, none⟩) (by simp; omega)).trans y3
      have zz4 := (hbb.cell (p := ⟨w.heap.size, 4, none⟩) (by simp; omega)).trans y4
      have hmne : ((p.2.size : Int) == 0) = false := by have := hd.out; rw [beq_eq_false_iff_ne]; omega
      have hcw : Value.int .u8 (IntKind.u8.wrap c) = .int .u8 c := by
        rw [show IntKind.u8.wrap c = c by simp [IntKind.wrap, IntKind.bits, IntKind.signed]; omega]
      have hqm : (q : Int) < (p.2.size : Int) := by omega
      have hzq : w1.heap.size < w2.heap.size := by omega
      have hzw2 : w.heap.size < w2.heap.size := by omega
      obtain ⟨bq, oq, eq1, hbq, hcq⟩ := hrow.2.2 (by omega)
      cases eq1
      have hqx := hcq q ((bl p.2)[q]'(by have := hrow.1; omega)) (List.getElem?_eq_getElem _) 0 _ rfl
      have hqc : w2.cell? ⟨w1.heap.size, q, none⟩ = some (.int .u8 ((bl p.2)[q]'(by have := hrow.1; omega)).toNat) := by simpa using hqx
      clear c0 c1 c2 c3 c4 c5 y3 y4
      replace hqe := Lib.hid hqe
      (refine region_ext_tail 9 (w2.heap.size) (by kernel_rfl) (by kernel_rfl) ?_
       simp only [List.take_succ_cons, List.take_zero, List.drop_succ_cons, List.drop_zero]
       repeat (go_big_quiet_step (fail))
       refine wpQuiet_nil ?_
       intro w3 hw'
       have hbw3 := Ext.of hw'
       clear hw'
       obtain ⟨hcw3, hfw3⟩ := bcell hbw3; (try simp only [World.size_drew, World.cell?_drew, World.frozen?_drew, World.heap_drewN, World.cell?_drewN, World.frozen?_drewN] at hcw3 hfw3); have hzw3 := hbw3.size; (try simp at hzw3); (try have hlw3 := (by omega : w.heap.size < w3.heap.size)); (try have hmw3 := (by omega : w.heap.size + 1 < w3.heap.size)); (try have hnw3 := (by omega : w.heap.size + 1 + 1 < w3.heap.size)))
      have f3 := (hfw3 w1.heap.size q hzq).trans hfz
      have q3 := (hbw3.cell (p := ⟨w1.heap.size, q, none⟩) hzq).trans hqc
      go_wp2_with fail
      have row4 : BytesAt (w3.setCell ⟨w1.heap.size, q, none⟩ (.int .u8 c)) (w1.heap.size + 1) (some ⟨w1.heap.size, 0, none⟩) p.2.size ((bl p.2).set q (UInt8.ofNat c.toNat)) := by
        have h9 : BytesAt w3 (w1.heap.size + 1) (some ⟨w1.heap.size, 0, none⟩) p.2.size (bl p.2) := hrow.below (by rw [← hz1]; exact hbw3)
        simpa using h9.setAt hq hc0 hc1
      have hben : Hid (bentB p.2 at_ c = str ((bl p.2).set q (UInt8.ofNat c.toNat))) := by unfold Hid bentB; rw [hqe.out]
      have h4 : StoIn (w3.setCell ⟨w1.heap.size, q, none⟩ (.int .u8 c)) b gm sm V N s := (h3.block fun i hi => hbw3.block i (h3.lt i hi)).block fun i hi => Go.Deep.blk_setCell_other _ _ _ _ (by have := h2'.out.lt i hi; intro e; simp at e; omega)
      have b4 : Below w1.heap.size w1 (w3.setCell ⟨w1.heap.size, q, none⟩ (.int .u8 c)) := (hbb.trans (hbw3.mono (by omega))).setCell (p := ⟨w1.heap.size, q, none⟩) (Nat.le_refl _) _
      have z4' : w1.heap.size + 1 ≤ (w3.setCell ⟨w1.heap.size, q, none⟩ (.int .u8 c)).heap.size := by have := hbw3.size; simp; omega
      generalize (w3.setCell ⟨w1.heap.size, q, none⟩ (.int .u8 c)) = w4 at row4 h4 b4 z4' ⊢
      obtain ⟨d0, d1, d2, _, _, _⟩ := h4.box.cells
      have hz3 := hbw3.size
      have hs4 := h4.seen
      have hlb4 := h4.box.lt
      have hls4 := h4.seen.lt
      obtain ⟨B9, hB9⟩ : ∃ B9, B9 = bentB p.2 at_ c := ⟨_, rfl⟩
      have hB9s : B9.size ≤ maxLen := by rw [hB9, bentB_size]; exact Nat.le_trans hok.2 (by decide)
      have hcv2 : ∀ x : Ext w4.heap.size w4, (convert 91 9 (.slice (some ⟨w1.heap.size, 0, none⟩) p.2.size cp)).run Try.prog x.world = .ok (.string B9) x.world := fun x => by
        rw [hB9, hben.out]
        exact run_bytes_str (row4.below (x.below.mono (by omega)))
      have hokp : ∀ y ∈ putO s.seen (p.1, B9), OkO y := fun y hy => by
        rcases putO_mem.1 hy with rfl | ⟨hy, _⟩
        · exact ⟨hok.1, by rw [hB9]; show (bentB p.2 at_ c).size ≤ 65536; rw [bentB_size]; exact hok.2⟩
        · exact h4.ns y hy
      rw [← hB9] at hr
      replace hB9 := Lib.hid hB9
      replace hok := Lib.hid hok
      have hx4 := Lib.hid h4
      clear h3 h4 f3 q3 hqc hqx hrow hcv
      (refine region_ext_tail 7 (w4.heap.size) (by kernel_rfl) (by kernel_rfl) ?_
       simp only [List.take_succ_cons, List.take_zero, List.drop_succ_cons, List.drop_zero]
       repeat (go_big_quiet_step (fail))
       refine wpQuiet_nil ?_
       intro w5 hw'
       have hbw5 := Ext.of hw'
       clear hw'
       obtain ⟨hcw5, hfw5⟩ := bcell hbw5; (try simp only [World.size_drew, World.cell?_drew, World.frozen?_drew, World.heap_drewN, World.cell?_drewN, World.frozen?_drewN] at hcw5 hfw5); have hzw5 := hbw5.size; (try simp at hzw5); (try have hlw5 := (by omega : w.heap.size < w5.heap.size)); (try have hmw5 := (by omega : w.heap.size + 1 < w5.heap.size)); (try have hnw5 := (by omega : w.heap.size + 1 + 1 < w5.heap.size)))
      have hs5 := hs4.below hls4 hbw5
      go_wp2_with (at_mapUpdate; go_must (refine wpList_obs_put _ rfl _ _ _ rfl sm N s.seen rfl hs5 (by omega) p.1 B9 rfl rfl hp hB9s ?_); intro w6 hm6 hg6)
      have h5 := hx4.out.block fun i hi => hbw5.block i (hx4.out.lt i hi)
      have h6 := h5.seenTo hm6 hg6 hokp (Nat.le_succ _) hN
      refine (store_settle b _ (N + 1) _ w6 ⟨gm, sm, V, rfl, h6⟩).mono ?_
      rintro e w7 ⟨rfl, hto⟩
      have hbut : But (b :: gm :: sm :: V.ownBlock.toList) w w6 := ((But.of_below (F := b :: gm :: sm :: V.ownBlock.toList) ((hbw.trans (b4.mono (by omega))))).trans (But.of_below (F := []) hbw5) (by simp)).trans (But.of_grown (F := [sm]) hg6 (by simp)) (by simp)
      have hfin := Lib.hid (hto.after hbut)
      go_wp2_with fail
      go_end0
      exact ⟨rfl, by rw [hr.out, hF.out]; exact hfin.out⟩

set_option maxHeartbeats 4000000 in
set_option maxRecDepth 100000 in
theorem strike_wipe (b : Nat) (F : List Nat) (N : Nat) (s : Sto) (store n at_ c : Int) (hb : (⟨1, store, n, at_, c⟩ : Flt).bad = false) (hf : (⟨1, store, n, at_, c⟩ : Flt).fit) (w : World) (h : StoAt w b F N s) :
    Calls Try.prog 20 #[.pointer (some ⟨b, 0, none⟩), (⟨1, store, n, at_, c⟩ : Flt).agg] w fun e w' => e = .returned (.int .i64 0) ∧ StoTo b F N ({ s with seen := [] } : Sto).settled w w' := by
  have hcs : ¬ n < 0 ∧ ¬ at_ < 0 ∧ ¬ c < 0 ∧ ¬ 255 < c := by simp [Flt.bad] at hb; omega
  obtain ⟨k3, k4, k5, k6⟩ := hcs
  have hA : Below w.heap.size w (w.alloc (⟨1, store, n, at_, c⟩ : Flt).box) := (Below.refl _ w).alloc (Nat.le_refl _) _
  have h1 := h.below hA
  have x0 := newCell w #[(.int .u8 1), .int .i64 store, .int .i64 n, .int .i64 at_, .int .i64 c] 33 (0, 0) 0
  have x1 := newCell w #[(.int .u8 1), .int .i64 store, .int .i64 n, .int .i64 at_, .int .i64 c] 33 (0, 0) 1
  have x2 := newCell w #[(.int .u8 1), .int .i64 store, .int .i64 n, .int .i64 at_, .int .i64 c] 33 (0, 0) 2
  have x3 := newCell w #[(.int .u8 1), .int .i64 store, .int .i64 n, .int .i64 at_, .int .i64 c] 33 (0, 0) 3
  have x4 := newCell w #[(.int .u8 1), .int .i64 store, .int .i64 n, .int .i64 at_, .int .i64 c] 33 (0, 0) 4
  have hz0 : (w.alloc (.cells #[(.int .u8 1), .int .i64 store, .int .i64 n, .int .i64 at_, .int .i64 c] 33)).heap.size = w.heap.size + 1 := by simp
  have hX := fun W (hW : StoAt W b F N s) => fault_wipe b F N s ⟨1, store, n, at_, c⟩ W hW
  unfold Flt.box at hA h1
  unfold Flt.agg at hX ⊢
  dsimp only at *
  replace hX := Lib.hid hX
  clear h hb
  go_enter Try.func20, Try.ntmps20
  go_upto_region 5 with fail
  generalize (w.alloc (.cells #[(.int .u8 1), .int .i64 store, .int .i64 n, .int .i64 at_, .int .i64 c] 33)) = w0 at hA h1 x0 x1 x2 x3 x4 hz0 ⊢
  have hS : ∀ W, Below w0.heap.size w0 W → W.cell? ⟨w.heap.size, 0, none⟩ = some (.int .u8 1) ∧ W.cell? ⟨w.heap.size, 1, none⟩ = some (.int .i64 store) ∧ W.cell? ⟨w.heap.size, 2, none⟩ = some (.int .i64 n) ∧ W.cell? ⟨w.heap.size, 3, none⟩ = some (.int .i64 at_) ∧ W.cell? ⟨w.heap.size, 4, none⟩ = some (.int .i64 c) := fun W hW =>
    ⟨(hW.cell (p := ⟨w.heap.size, 0, none⟩) (by simp; omega)).trans x0, (hW.cell (p := ⟨w.heap.size, 1, none⟩) (by simp; omega)).trans x1, (hW.cell (p := ⟨w.heap.size, 2, none⟩) (by simp; omega)).trans x2, (hW.cell (p := ⟨w.heap.size, 3, none⟩) (by simp; omega)).trans x3, (hW.cell (p := ⟨w.heap.size, 4, none⟩) (by simp; omega)).trans x4⟩
  have hd : Below w0.heap.size w0 w0.drew := (Below.refl _ _).drew
  refine region_held_tail 6 (fun W : World => W.cell? ⟨w.heap.size, 0, none⟩ = some (.int .u8 1) ∧ W.cell? ⟨w.heap.size, 1, none⟩ = some (.int .i64 store) ∧ W.cell? ⟨w.heap.size, 2, none⟩ = some (.int .i64 n) ∧ W.cell? ⟨w.heap.size, 3, none⟩ = some (.int .i64 at_) ∧ W.cell? ⟨w.heap.size, 4, none⟩ = some (.int .i64 c)) (by kernel_rfl) (by kernel_rfl) ?_
  have hHeld : (fun W : World => W.cell? ⟨w.heap.size, 0, none⟩ = some (.int .u8 1) ∧ W.cell? ⟨w.heap.size, 1, none⟩ = some (.int .i64 store) ∧ W.cell? ⟨w.heap.size, 2, none⟩ = some (.int .i64 n) ∧ W.cell? ⟨w.heap.size, 3, none⟩ = some (.int .i64 at_) ∧ W.cell? ⟨w.heap.size, 4, none⟩ = some (.int .i64 c)) w0.drew := hS _ hd
  clear x0 x1 x2 x3 x4
  have hidx : ∀ W : World, (Instr.index 93 (.agg #[.nilFunc, .func (.func 85) #[] #[], .func (.func 86) #[] #[], .func (.func 87) #[] #[], .func (.func 88) #[] #[], .func (.func 89) #[] #[], .func (.func 90) #[] #[], .func (.func 91) #[] #[]]) (.int .u8 1)).run Try.prog W = .ok (.func (.func 85) #[] #[]) W := fun W => by kernel_rfl
  (refine HT.takeL (i := 1) (v := ?_) rfl (by kernel_rfl) (fun _ _ _ h => h) (Or.inl ⟨by rfl, ?_⟩) (by assumption) ?_
   rotate_left
   · (intro w hSw; (try dsimp only at hSw); go_simp; (try with_reducible rfl))
   try simp only [Act.put, List.setIfInBounds_toArray, List.set_cons_zero, List.set_cons_succ])
  (refine HT.takeL (i := 2) (v := ?_) rfl (by kernel_rfl) (fun _ _ _ h => h) (Or.inl ⟨by rfl, ?_⟩) (by assumption) ?_
   rotate_left
   · (intro w hSw; (try dsimp only at hSw); go_simp; (try with_reducible rfl))
   try simp only [Act.put, List.setIfInBounds_toArray, List.set_cons_zero, List.set_cons_succ])
  (refine HT.takeL (i := 4) (v := ?_) rfl (by kernel_rfl) (fun _ _ _ h => h) (Or.inl ⟨by rfl, ?_⟩) (by assumption) ?_
   rotate_left
   · (intro w hSw; (try dsimp only at hSw); go_simp; (try with_reducible rfl))
   try simp only [Act.put, List.setIfInBounds_toArray, List.set_cons_zero, List.set_cons_succ])
  (refine HT.takeL (i := 5) (v := ?_) rfl (by kernel_rfl) (fun _ _ _ h => h) (Or.inl ⟨by rfl, ?_⟩) (by assumption) ?_
   rotate_left
   · (intro w hSw; (try dsimp only at hSw); go_simp; (try with_reducible rfl))
   try simp only [Act.put, List.setIfInBounds_toArray, List.set_cons_zero, List.set_cons_succ])
  (refine HT.onlyL (i := 0) rfl (by kernel_rfl) (fun K hK => ?_)
   (go_simp; (refine (store_faults w0.drew).mono ?_; rintro e w1 ⟨rfl, b1⟩; have t1 := hd.trans b1; unfold fns))
   refine hK.out _ _ ?_ (fun hHeld => ?_)
   · (exact hS _ t1)
   clear hK K
   try simp only [Act.put, List.setIfInBounds_toArray, List.set_cons_zero, List.set_cons_succ])
  (refine HT.takeL (i := 3) (v := ?_) rfl (by kernel_rfl) (fun _ _ _ h => h) (Or.inl ⟨by rfl, ?_⟩) (by assumption) ?_
   rotate_left
   · (intro w hSw; (try dsimp only at hSw); go_simp; (try with_reducible rfl))
   try simp only [Act.put, List.setIfInBounds_toArray, List.set_cons_zero, List.set_cons_succ])
  refine HT.tail (by kernel_rfl) ?_
  simp only [List.drop_succ_cons, List.drop_zero]
  have h2 := h1.below t1
  clear hS hidx
  go_wp2_with fail
  refine (hX.out w1 h2).mono ?_
  rintro e w2 ⟨rfl, hto⟩
  have hfin := StoTo.ahead (hA.trans (t1.mono (by omega))) hto
  replace hfin := Lib.hid hfin
  go_wp2_with fail
  go_ret
  exact ⟨rfl, hfin.out⟩
set_option maxHeartbeats 4000000 in
set_option maxRecDepth 100000 in
theorem strike_lose (b : Nat) (F : List Nat) (N : Nat) (s : Sto) (store n at_ c : Int) (hb : (⟨2, store, n, at_, c⟩ : Flt).bad = false) (hf : (⟨2, store, n, at_, c⟩ : Flt).fit) (w : World) (h : StoAt w b F N s) :
    Calls Try.prog 20 #[.pointer (some ⟨b, 0, none⟩), (⟨2, store, n, at_, c⟩ : Flt).agg] w fun e w' => e = .returned (.int .i64 0) ∧ StoTo b F N (s.lost n) w w' := by
  have hcs : ¬ n < 0 ∧ ¬ at_ < 0 ∧ ¬ c < 0 ∧ ¬ 255 < c := by simp [Flt.bad] at hb; omega
  obtain ⟨k3, k4, k5, k6⟩ := hcs
  have hA : Below w.heap.size w (w.alloc (⟨2, store, n, at_, c⟩ : Flt).box) := (Below.refl _ w).alloc (Nat.le_refl _) _
  have h1 := h.below hA
  have x0 := newCell w #[(.int .u8 2), .int .i64 store, .int .i64 n, .int .i64 at_, .int .i64 c] 33 (0, 0) 0
  have x1 := newCell w #[(.int .u8 2), .int .i64 store, .int .i64 n, .int .i64 at_, .int .i64 c] 33 (0, 0) 1
  have x2 := newCell w #[(.int .u8 2), .int .i64 store, .int .i64 n, .int .i64 at_, .int .i64 c] 33 (0, 0) 2
  have x3 := newCell w #[(.int .u8 2), .int .i64 store, .int .i64 n, .int .i64 at_, .int .i64 c] 33 (0, 0) 3
  have x4 := newCell w #[(.int .u8 2), .int .i64 store, .int .i64 n, .int .i64 at_, .int .i64 c] 33 (0, 0) 4
  have hz0 : (w.alloc (.cells #[(.int .u8 2), .int .i64 store, .int .i64 n, .int .i64 at_, .int .i64 c] 33)).heap.size = w.heap.size + 1 := by simp
  have hX := fun W (hW : StoAt W b F N s) => fault_lose b F N s ⟨2, store, n, at_, c⟩ (by simp; omega) W hW
  unfold Flt.box at hA h1
  unfold Flt.agg at hX ⊢
  dsimp only at *
  replace hX := Lib.hid hX
  clear h hb
  go_enter Try.func20, Try.ntmps20
  go_upto_region 5 with fail
  generalize (w.alloc (.cells #[(.int .u8 2), .int .i64 store, .int .i64 n, .int .i64 at_, .int .i64 c] 33)) = w0 at hA h1 x0 x1 x2 x3 x4 hz0 ⊢
  have hS : ∀ W, Below w0.heap.size w0 W → W.cell? ⟨w.heap.size, 0, none⟩ = some (.int .u8 2) ∧ W.cell? ⟨w.heap.size, 1, none⟩ = some (.int .i64 store) ∧ W.cell? ⟨w.heap.size, 2, none⟩ = some (.int .i64 n) ∧ W.cell? ⟨w.heap.size, 3, none⟩ = some (.int .i64 at_) ∧ W.cell? ⟨w.heap.size, 4, none⟩ = some (.int .i64 c) := fun W hW =>
    ⟨(hW.cell (p := ⟨w.heap.size, 0, none⟩) (by simp; omega)).trans x0, (hW.cell (p := ⟨w.heap.size, 1, none⟩) (by simp; omega)).trans x1, (hW.cell (p := ⟨w.heap.size, 2, none⟩) (by simp; omega)).trans x2, (hW.cell (p := ⟨w.heap.size, 3, none⟩) (by simp; omega)).trans x3, (hW.cell (p := ⟨w.heap.size, 4, none⟩) (by simp; omega)).trans x4⟩
  have hd : Below w0.heap.size w0 w0.drew := (Below.refl _ _).drew
  refine region_held_tail 6 (fun W : World => W.cell? ⟨w.heap.size, 0, none⟩ = some (.int .u8 2) ∧ W.cell? ⟨w.heap.size, 1, none⟩ = some (.int .i64 store) ∧ W.cell? ⟨w.heap.size, 2, none⟩ = some (.int .i64 n) ∧ W.cell? ⟨w.heap.size, 3, none⟩ = some (.int .i64 at_) ∧ W.cell? ⟨w.heap.size, 4, none⟩ = some (.int .i64 c)) (by kernel_rfl) (by kernel_rfl) ?_
  have hHeld : (fun W : World => W.cell? ⟨w.heap.size, 0, none⟩ = some (.int .u8 2) ∧ W.cell? ⟨w.heap.size, 1, none⟩ = some (.int .i64 store) ∧ W.cell? ⟨w.heap.size, 2, none⟩ = some (.int .i64 n) ∧ W.cell? ⟨w.heap.size, 3, none⟩ = some (.int .i64 at_) ∧ W.cell? ⟨w.heap.size, 4, none⟩ = some (.int .i64 c)) w0.drew := hS _ hd
  clear x0 x1 x2 x3 x4
  have hidx : ∀ W : World, (Instr.index 93 (.agg #[.nilFunc, .func (.func 85) #[] #[], .func (.func 86) #[] #[], .func (.func 87) #[] #[], .func (.func 88) #[] #[], .func (.func 89) #[] #[], .func (.func 90) #[] #[], .func (.func 91) #[] #[]]) (.int .u8 2)).run Try.prog W = .ok (.func (.func 86) #[] #[]) W := fun W => by kernel_rfl
  (refine HT.takeL (i := 1) (v := ?_) rfl (by kernel_rfl) (fun _ _ _ h => h) (Or.inl ⟨by rfl, ?_⟩) (by assumption) ?_
   rotate_left
   · (intro w hSw; (try dsimp only at hSw); go_simp; (try with_reducible rfl))
   try simp only [Act.put, List.setIfInBounds_toArray, List.set_cons_zero, List.set_cons_succ])
  (refine HT.takeL (i := 2) (v := ?_) rfl (by kernel_rfl) (fun _ _ _ h => h) (Or.inl ⟨by rfl, ?_⟩) (by assumption) ?_
   rotate_left
   · (intro w hSw; (try dsimp only at hSw); go_simp; (try with_reducible rfl))
   try simp only [Act.put, List.setIfInBounds_toArray, List.set_cons_zero, List.set_cons_succ])
  (refine HT.takeL (i := 4) (v := ?_) rfl (by kernel_rfl) (fun _ _ _ h => h) (Or.inl ⟨by rfl, ?_⟩) (by assumption) ?_
   rotate_left
   · (intro w hSw; (try dsimp only at hSw); go_simp; (try with_reducible rfl))
   try simp only [Act.put, List.setIfInBounds_toArray, List.set_cons_zero, List.set_cons_succ])
  (refine HT.takeL (i := 5) (v := ?_) rfl (by kernel_rfl) (fun _ _ _ h => h) (Or.inl ⟨by rfl, ?_⟩) (by assumption) ?_
   rotate_left
   · (intro w hSw; (try dsimp only at hSw); go_simp; (try with_reducible rfl))
   try simp only [Act.put, List.setIfInBounds_toArray, List.set_cons_zero, List.set_cons_succ])
  (refine HT.onlyL (i := 0) rfl (by kernel_rfl) (fun K hK => ?_)
   (go_simp; (refine (store_faults w0.drew).mono ?_; rintro e w1 ⟨rfl, b1⟩; have t1 := hd.trans b1; unfold fns))
   refine hK.out _ _ ?_ (fun hHeld => ?_)
   · (exact hS _ t1)
   clear hK K
   try simp only [Act.put, List.setIfInBounds_toArray, List.set_cons_zero, List.set_cons_succ])
  (refine HT.takeL (i := 3) (v := ?_) rfl (by kernel_rfl) (fun _ _ _ h => h) (Or.inl ⟨by rfl, ?_⟩) (by assumption) ?_
   rotate_left
   · (intro w hSw; (try dsimp only at hSw); go_simp; (try with_reducible rfl))
   try simp only [Act.put, List.setIfInBounds_toArray, List.set_cons_zero, List.set_cons_succ])
  refine HT.tail (by kernel_rfl) ?_
  simp only [List.drop_succ_cons, List.drop_zero]
  have h2 := h1.below t1
  clear hS hidx
  go_wp2_with fail
  refine (hX.out w1 h2).mono ?_
  rintro e w2 ⟨rfl, hto⟩
  have hfin := StoTo.ahead (hA.trans (t1.mono (by omega))) hto
  replace hfin := Lib.hid hfin
  go_wp2_with fail
  go_ret
  exact ⟨rfl, hfin.out⟩
end Go.Proofs.Ytfkonpmnclknaaa
/-
  Strike by any fault.
-/
namespace Go.Proofs.Ytfkonpmnclknaaa
open Go.RowKit Go.Maps
attribute [local go_sem ↓] Go.wp_at_zero Go.wp_at_succ

set_option maxHeartbeats 4000000 in
set_option maxRecDepth 100000 in
theorem strike_bend (b : Nat) (F : List Nat) (N : Nat) (s : Sto) (store n at_ c : Int) (hb : (⟨3, store, n, at_, c⟩ : Flt).bad = false) (hf : (⟨3, store, n, at_, c⟩ : Flt).fit) (hN : N + 1 ≤ 1000000) (w : World) (h : StoAt w b F N s) :
    Calls Try.prog 20 #[.pointer (some ⟨b, 0, none⟩), (⟨3, store, n, at_, c⟩ : Flt).agg] w fun e w' => e = .returned (.int .i64 0) ∧ StoTo b F (N + 1) (s.bent n at_ c) w w' := by
  have hcs : ¬ n < 0 ∧ ¬ at_ < 0 ∧ ¬ c < 0 ∧ ¬ 255 < c := by simp [Flt.bad] at hb; omega
  obtain ⟨k3, k4, k5, k6⟩ := hcs
  have hA : Below w.heap.size w (w.alloc (⟨3, store, n, at_, c⟩ : Flt).box) := (Below.refl _ w).alloc (Nat.le_refl _) _
  have h1 := h.below hA
  have x0 := newCell w #[(.int .u8 3), .int .i64 store, .int .i64 n, .int .i64 at_, .int .i64 c] 33 (0, 0) 0
  have x1 := newCell w #[(.int .u8 3), .int .i64 store, .int .i64 n, .int .i64 at_, .int .i64 c] 33 (0, 0) 1
  have x2 := newCell w #[(.int .u8 3), .int .i64 store, .int .i64 n, .int .i64 at_, .int .i64 c] 33 (0, 0) 2
  have x3 := newCell w #[(.int .u8 3), .int .i64 store, .int .i64 n, .int .i64 at_, .int .i64 c] 33 (0, 0) 3
  have x4 := newCell w #[(.int .u8 3), .int .i64 store, .int .i64 n, .int .i64 at_, .int .i64 c] 33 (0, 0) 4
  have hz0 : (w.alloc (.cells #[(.int .u8 3), .int .i64 store, .int .i64 n, .int .i64 at_, .int .i64 c] 33)).heap.size = w.heap.size + 1 := by simp
  have hX := fun W (hW : StoAt W b F N s) => fault_bend b F N s ⟨3, store, n, at_, c⟩ (by simp; omega) (by simp; omega) (by simp; omega) (by simp; omega) hN W hW
  unfold Flt.box at hA h1
  unfold Flt.agg at hX ⊢
  dsimp only at *
  replace hX := Lib.hid hX
  clear h hb
  go_enter Try.func20, Try.ntmps20
  go_upto_region 5 with fail
  generalize (w.alloc (.cells #[(.int .u8 3), .int .i64 store, .int .i64 n, .int .i64 at_, .int .i64 c] 33)) = w0 at hA h1 x0 x1 x2 x3 x4 hz0 ⊢
  have hS : ∀ W, Below w0.heap.size w0 W → W.cell? ⟨w.heap.size, 0, none⟩ = some (.int .u8 3) ∧ W.cell? ⟨w.heap.size, 1, none⟩ = some (.int .i64 store) ∧ W.cell? ⟨w.heap.size, 2, none⟩ = some (.int .i64 n) ∧ W.cell? ⟨w.heap.size, 3, none⟩ = some (.int .i64 at_) ∧ W.cell? ⟨w.heap.size, 4, none⟩ = some (.int .i64 c) := fun W hW =>
    ⟨(hW.cell (p := ⟨w.heap.size, 0, none⟩) (by simp; omega)).trans x0, (hW.cell (p := ⟨w.heap.size, 1, none⟩) (by simp; omega)).trans x1, (hW.cell (p := ⟨w.heap.size, 2, none⟩) (by simp; omega)).trans x2, (hW.cell (p := ⟨w.heap.size, 3, none⟩) (by simp; omega)).trans x3, (hW.cell (p := ⟨w.heap.size, 4, none⟩) (by simp; omega)).trans x4⟩
  have hd : Below w0.heap.size w0 w0.drew := (Below.refl _ _).drew
  refine region_held_tail 6 (fun W : World => W.cell? ⟨w.heap.size, 0, none⟩ = some (.int .u8 3) ∧ W.cell? ⟨w.heap.size, 1, none⟩ = some (.int .i64 store) ∧ W.cell? ⟨w.heap.size, 2, none⟩ = some (.int .i64 n) ∧ W.cell? ⟨w.heap.size, 3, none⟩ = some (.int .i64 at_) ∧ W.cell? ⟨w.heap.size, 4, none⟩ = some (.int .i64 c)) (by kernel_rfl) (by kernel_rfl) ?_
  have hHeld : (fun W : World => W.cell? ⟨w.heap.size, 0, none⟩ = some (.int .u8 3) ∧ W.cell? ⟨w.heap.size, 1, none⟩ = some (.int .i64 store) ∧ W.cell? ⟨w.heap.size, 2, none⟩ = some (.int .i64 n) ∧ W.cell? ⟨w.heap.size, 3, none⟩ = some (.int .i64 at_) ∧ W.cell? ⟨w.heap.size, 4, none⟩ = some (.int .i64 c)) w0.drew := hS _ hd
  clear x0 x1 x2 x3 x4
  have hidx : ∀ W : World, (Instr.index 93 (.agg #[.nilFunc, .func (.func 85) #[] #[], .func (.func 86) #[] #[], .func (.func 87) #[] #[], .func (.func 88) #[] #[], .func (.func 89) #[] #[], .func (.func 90) #[] #[], .func (.func 91) #[] #[]]) (.int .u8 3)).run Try.prog W = .ok (.func (.func 87) #[] #[]) W := fun W => by kernel_rfl
  (refine HT.takeL (i := 1) (v := ?_) rfl (by kernel_rfl) (fun _ _ _ h => h) (Or.inl ⟨by rfl, ?_⟩) (by assumption) ?_
   rotate_left
   · (intro w hSw; (try dsimp only at hSw); go_simp; (try with_reducible rfl))
   try simp only [Act.put, List.setIfInBounds_toArray, List.set_cons_zero, List.set_cons_succ])
  (refine HT.takeL (i := 2) (v := ?_) rfl (by kernel_rfl) (fun _ _ _ h => h) (Or.inl ⟨by rfl, ?_⟩) (by assumption) ?_
   rotate_left
   · (intro w hSw; (try dsimp only at hSw); go_simp; (try with_reducible rfl))
   try simp only [Act.put, List.setIfInBounds_toArray, List.set_cons_zero, List.set_cons_succ])
  (refine HT.takeL (i := 4) (v := ?_) rfl (by kernel_rfl) (fun _ _ _ h => h) (Or.inl ⟨by rfl, ?_⟩) (by assumption) ?_
   rotate_left
   · (intro w hSw; (try dsimp only at hSw); go_simp; (try with_reducible rfl))
   try simp only [Act.put, List.setIfInBounds_toArray, List.set_cons_zero, List.set_cons_succ])
  (refine HT.takeL (i := 5) (v := ?_) rfl (by kernel_rfl) (fun _ _ _ h => h) (Or.inl ⟨by rfl, ?_⟩) (by assumption) ?_
   rotate_left
   · (intro w hSw; (try dsimp only at hSw); go_simp; (try with_reducible rfl))
   try simp only [Act.put, List.setIfInBounds_toArray, List.set_cons_zero, List.set_cons_succ])
  (refine HT.onlyL (i := 0) rfl (by kernel_rfl) (fun K hK => ?_)
   (go_simp; (refine (store_faults w0.drew).mono ?_; rintro e w1 ⟨rfl, b1⟩; have t1 := hd.trans b1; unfold fns))
   refine hK.out _ _ ?_ (fun hHeld => ?_)
   · (exact hS _ t1)
   clear hK K
   try simp only [Act.put, List.setIfInBounds_toArray, List.set_cons_zero, List.set_cons_succ])
  (refine HT.takeL (i := 3) (v := ?_) rfl (by kernel_rfl) (fun _ _ _ h => h) (Or.inl ⟨by rfl, ?_⟩) (by assumption) ?_
   rotate_left
   · (intro w hSw; (try dsimp only at hSw); go_simp; (try with_reducible rfl))
   try simp only [Act.put, List.setIfInBounds_toArray, List.set_cons_zero, List.set_cons_succ])
  refine HT.tail (by kernel_rfl) ?_
  simp only [List.drop_succ_cons, List.drop_zero]
  have h2 := h1.below t1
  clear hS hidx
  go_wp2_with fail
  refine (hX.out w1 h2).mono ?_
  rintro e w2 ⟨rfl, hto⟩
  have hfin := StoTo.ahead (hA.trans (t1.mono (by omega))) hto
  replace hfin := Lib.hid hfin
  go_wp2_with fail
  go_ret
  exact ⟨rfl, hfin.out⟩

def Sto.strike (s : Sto) (f : Flt) : Sto × Int := if f.bad = true then (s, 1) else
  (if f.kind = 1 then ({ s with seen := [] } : Sto).settled else if f.kind = 2 then s.lost f.n else if f.kind = 3 then s.bent f.n f.at_ f.c
    else if f.kind = 4 then { s with down := true } else if f.kind = 5 then { s with down := false } else if f.kind = 6 then { s with refuse := f.n } else { s with room := f.n }, 0)
theorem store_Strike (b : Nat) (F : List Nat) (N : Nat) (s : Sto) (f : Flt) (hf : f.fit) (hN : N + 1 ≤ 1000000) (w : World) (h : StoAt w b F N s) :
    Calls Try.prog 20 #[.pointer (some ⟨b, 0, none⟩), f.agg] w fun e w' => e = .returned (.int .i64 (s.strike f).2) ∧ StoTo b F (N + 1) (s.strike f).1 w w' := by
  cases hb : f.bad
  · have hk : f.kind = 1 ∨ f.kind = 2 ∨ f.kind = 3 ∨ f.kind = 4 ∨ f.kind = 5 ∨ f.kind = 6 ∨ f.kind = 7 := by
      have h1 := hb
      unfold Flt.bad at h1
      simp only [Bool.or_eq_false_iff, decide_eq_false_iff_not] at h1
      omega
    obtain ⟨kind, store, n, at_, c⟩ := f
    dsimp only at hk
    unfold Sto.strike
    rw [if_neg (by rw [hb]; decide)]
    dsimp only
    rcases hk with rfl | rfl | rfl | rfl | rfl | rfl | rfl
    · exact (strike_wipe b F N s store n at_ c hb hf w h).mono fun e w' hw => ⟨hw.1, hw.2.more (Nat.le_succ _) hN⟩
    · exact (strike_lose b F N s store n at_ c hb hf w h).mono fun e w' hw => ⟨hw.1, hw.2.more (Nat.le_succ _) hN⟩
    · exact strike_bend b F N s store n at_ c hb hf hN w h
    · exact (strike_down b F N s store n at_ c hb hf w h).mono fun e w' hw => ⟨hw.1, hw.2.more (Nat.le_succ _) hN⟩
    · exact (strike_up b F N s store n at_ c hb hf w h).mono fun e w' hw => ⟨hw.1, hw.2.more (Nat.le_succ _) hN⟩
    · exact (strike_refuse b F N s store n at_ c hb hf w h).mono fun e w' hw => ⟨hw.1, hw.2.more (Nat.le_succ _) hN⟩
    · exact (strike_room b F N s store n at_ c hb hf w h).mono fun e w' hw => ⟨hw.1, hw.2.more (Nat.le_succ _) hN⟩
  · unfold Sto.strike
    rw [if_pos hb]
    exact (strike_bad b F N s f hb w h).mono fun e w' hw => ⟨hw.1, hw.2.more (Nat.le_succ _) hN⟩
end Go.Proofs.Ytfkonpmnclknaaa
