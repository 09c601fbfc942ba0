/-
  The contract of the reference's Make.
-/
import Derived.Test.YthbmbbbojpdlaaaMakeA
import Derived.Lib.AppendStr
import Derived.Lib.SmallJoins
namespace Go.Proofs.Ythbmbbbojpdlaaa
open Go.RowKit
attribute [local go_sem ↓] Go.wp_at_zero Go.wp_at_succ

def byteE : Elem UInt8 where
  T := 5
  S := 66
  k := 1
  bytes := 1
  enc := byteCell
  z := .int .u8 0
  und := Try.underlying66
  info := by kernel_rfl
  zc := rfl
  pos := by decide
  small := by decide
  len := byteCell_len
  one := fun x u hu => by simp [byteCell] at hu; subst hu; rfl
abbrev OwnB (w : World) (base : Nat) (v : Value) (l : List UInt8) : Prop := Owns 1 byteCell 5 w base v l

theorem wpList_bytes_str {ops : Array Oper} {rest : List Oper} {o : Oper} {a : Act} {w : World} {Q : Exit → Act → World → Prop} (hgd : o.guard = none) (s x : Operand)
    (ho : o.op = .call { callee := .builtin .append, args := #[s, x], argTypes := #[66, 9] })
    (base : Nat) (v : Value) (l : List UInt8) (hs : a.eval s = v) (y : ByteArray) (hx : a.eval x = .string y) (hown : OwnB w base v l) (hl : l.length + y.size ≤ 1000000000) (hbase : base ≤ w.heap.size)
    (h : ∀ v' w', OwnB w' base v' (l ++ bl y) → w.grownBy w' v.ownBlock → wpList Try.prog ops Q rest (a.put o.dst v') w') : wpList Try.prog ops Q (o :: rest) a w := by
  obtain ⟨i, hi, hz, hsz, hby⟩ := infoOf byteE.info
  refine Lib.wpList_append_own_string w hgd s x _ _ ho base _ i Try.underlying66 Try.underlying9 hi hz hsz hby v l.length _ hs hown y hx (by unfold maxLen; omega) (by omega) hbase ?_
  intro v' w' h1 h2 _
  refine h v' w' ?_ h2
  unfold OwnB Owns
  rw [List.length_append, bl_len, List.flatMap_append]
  have : Lib.strCells y = (bl y).flatMap byteCell := (flat_map _).symm
  rw [← this]
  exact h1

theorem bytes_cells {w : World} {B b n : Nat} {l : List UInt8} (h : BytesAt w B (some ⟨b, 0, none⟩) n l) : ∀ j u, (l.flatMap byteCell)[j]? = some u → w.cell? ((⟨b, 0, none⟩ : Addr).add j) = some u := by
  intro j u hu
  rw [flat_map, List.getElem?_map] at hu
  cases hx : l[j]? with
  | none => rw [hx] at hu; cases hu
  | some x =>
    rw [hx] at hu
    simp at hu
    subst hu
    have hj : j < l.length := (List.getElem?_eq_some_iff.1 hx).1
    obtain ⟨b', off, e, _, hc⟩ := h.2.2 (by have := h.1; omega)
    simp only [Option.some.injEq, Addr.mk.injEq] at e
    obtain ⟨rfl, rfl, _⟩ := e
    have := hc j x hx 0 _ rfl
    rw [Addr.add_lit]
    simpa using this
/-- What is appended to a row without room: a new row, owned. -/
theorem wpList_bytes_full {ops : Array Oper} {rest : List Oper} {o : Oper} {a : Act} {w : World} {Q : Exit → Act → World → Prop} (hgd : o.guard = none) (s x : Operand)
    (ho : o.op = .call { callee := .builtin .append, args := #[s, x], argTypes := #[66, 66] })
    (base b n : Nat) (l : List UInt8) (hs : a.eval s = .slice (some ⟨b, 0, none⟩) n n) (B : Nat) (hr : BytesAt w B (some ⟨b, 0, none⟩) n l)
    (b' n' c' : Nat) (l' : List UInt8) (hx : a.eval x = .slice (some ⟨b', 0, none⟩) n' c') (B' : Nat) (hr' : BytesAt w B' (some ⟨b', 0, none⟩) n' l') (h0 : 0 < n') (hl : n + n' ≤ 1000000000) (hbase : base ≤ w.heap.size)
    (h : ∀ v' w', OwnB w' base v' (l ++ l') → w.grownBy w' none → wpList Try.prog ops Q rest (a.put o.dst v') w') : wpList Try.prog ops Q (o :: rest) a w := by
  obtain ⟨i, hi, hz, hsz, hby⟩ := infoOf byteE.info
  have hn := hr.1
  have hn' := hr'.1
  have hsz1 : i.size = 1 := hsz
  have hby1 : i.bytes = 1 := hby
  have hfit : Builtin.nextslicecap (n + n') n * i.bytes ≤ 281474976710656 := growslice_fits (by omega) (by rw [hby1]; omega)
  have hrun := run_append_grow (P := Try.prog) w 66 o.type 5 i (.int .u8 0) Try.underlying66 hi hz ⟨b, 0, none⟩ n n (l.flatMap byteCell) (by rw [flat_len byteCell_len, hn, hsz1]) (bytes_cells hr) ⟨b', 0, none⟩ n' c' (l'.flatMap byteCell) (by rw [flat_len byteCell_len, hn', hsz1]) (bytes_cells hr') (by omega) (by omega) hfit
  refine wpList_plain hgd fun K hK => ?_
  unfold Oper.wp execOp
  simp only [ho, resolve, invoke, builtin, Sem.run_bind, Sem.run_pure, Result.andThen_ok, List.map_toArray, List.map_cons, List.map_nil, hs, hx, hrun]
  refine hK _ _ (h _ _ ?_ ⟨rfl, rfl, rfl, by simp, fun k hk _ => heap_alloc_old w.drew _ hk⟩)
  have hge := grownCap_ge w (n + n') n 5
  have hcm : grownCap w (n + n') n 5 ≤ maxLen := grownCap_le_maxLen w (n + n') n 5 (by unfold maxLen; omega)
  unfold OwnB Owns
  rw [List.length_append, hn, hn', List.flatMap_append]
  refine ⟨by rw [List.length_append, flat_len byteCell_len, flat_len byteCell_len, hn, hn', Nat.mul_one, Nat.mul_one, Nat.mul_one], .inr ⟨w.heap.size, _, _, rfl, hbase, heap_alloc_new w.drew _, hge, hcm, ?_, ?_⟩⟩
  · simp only [Array.size_append, List.size_toArray, size_zeroCells, flat_len byteCell_len, hn, hn']
    show n * 1 + n' * 1 + (grownCap w (n + n') n 5 - (n + n')) * 1 = _
    omega
  · simp only [Array.toList_append, List.append_assoc]
    rw [← List.append_assoc]
    have : ((l.flatMap byteCell) ++ (l'.flatMap byteCell)).length = (n + n') * 1 := by rw [List.length_append, flat_len byteCell_len, flat_len byteCell_len, hn, hn']; omega
    rw [← this]
    exact List.take_left

theorem bytes_as {n : Int} {m : Nat} {l : List UInt8} (hl : l = be n.toNat m) (hm : m = 1 ∨ m = 2 ∨ m = 4 ∨ m = 8) (h0 : 0 ≤ n) (hn : n ≤ 9223372036854775807) (w : World) :
    Calls Try.prog 56 #[.int .i64 n, .int .i64 m] w fun e w' => ∃ A c, e = .returned (.slice A m c) ∧ BytesAt w' w'.heap.size A m l ∧ Below w.heap.size w w' := by
  obtain ⟨k, rfl⟩ := Int.eq_ofNat_of_zero_le h0
  refine (ref23_bytes k m w hm (by omega)).mono ?_
  rintro e w' ⟨v, rfl, ho, hb⟩
  have hz : (be k m).length = m := be_len k m
  obtain ⟨A, c, rfl⟩ := ho.form
  refine ⟨A, c, by rw [hz], ?_, hb⟩
  have := ho.row byteCell_len
  rw [hz] at this
  subst hl
  exact this

set_option maxHeartbeats 4000000 in
set_option maxRecDepth 100000 in
theorem ref23_Make (v : Rws) (s : St) (w : World) (h : StAt w w.heap.size v s) :
    Calls Try.prog 20 #[v.val s] w fun e w' => e = .returned (.tuple #[.string (makeRes s).1, .int .i64 (makeRes s).2]) ∧ Below w.heap.size w w' := by
  have hM : Hid (∀ W : World, Below w.heap.size w W → Calls Try.prog 22 #[v.val s] W fun e w' => e = .returned (.bool (mayState s)) ∧ Below W.heap.size W w') := fun W hb => ref23_May v s W (h.to hb)
  by_cases hs : mayState s = true
  · have hg := mayState_good hs
    rw [hs] at hM
    have hres : Hid (makeRes s = (str (stB s), 0)) := by unfold Hid makeRes; rw [if_pos hs]
    obtain ⟨k, n, next, sn, cs, ps⟩ := s
    obtain ⟨A1, n1, c1, A2, n2, c2, A3, n3, c3⟩ := v
    obtain ⟨h1, h2, h3, hok⟩ := h
    obtain ⟨⟨gk1, gk2, gk3⟩, ⟨gn1, gn2⟩, gl, gs, -, ⟨gc1, gc2⟩, gcs, gps⟩ := hg
    dsimp only at h1 h2 h3 gk1 gk2 gk3 gn1 gn2 gl gs gc1 gc2 gcs gps
    have l1 := Lib.hid h1.1
    have l2 := Lib.hid h2.1
    have l3 := Lib.hid h3.1
    have hn1 : n1 ≤ 32 := by rw [← l1.out]; exact gl
    have hn2 : n2 ≤ 400 := by rw [← l2.out]; exact gc2
    replace gs := Lib.hid gs
    replace gcs := Lib.hid gcs
    replace gps := Lib.hid gps
    replace gc1 := Lib.hid gc1
    unfold Rws.val stv at hM ⊢
    go_enter Try.func20, Try.ntmps20
    go_wp2_with fail
    refine (hM.out _ (by repeat (first | exact Below.refl _ _ | assumption | refine Below.drew ?_ | refine below_drewN ?_ _ | refine Below.alloc ?_ (by first | omega | (simp; try omega)) _ | refine Below.setCell ?_ (by first | omega | (simp; try omega)) _ | (refine Below.trans ?_ (Below.mono (by assumption) (by first | omega | (simp; try omega))))))).mono ?_
    rintro e w1 ⟨rfl, hb1⟩
    have hz1 : w.heap.size + 1 ≤ w1.heap.size := by simpa using hb1.size
    have e1 : Below (w.heap.size + 1) (w.alloc (stBox k n next A1 n1 c1 A2 n2 c2 A3 n3 c3)) w1 := hb1.mono (by simp)
    have f1 : Below w.heap.size w w1 := (Below.alloc (Below.refl _ _) (by omega) _).trans (e1.mono (by omega))
    have hzl : w.heap.size < w1.heap.size := by omega
    obtain ⟨x0, x1, x2, x3, x4, x5⟩ := stBox_cells e1
    have hcv := Go.Joins.run_convert_bytes_const_at (P := Try.prog) w1 66 5 #[.int .u8 115, .int .u8 116, .int .u8 97, .int .u8 49] 4 4 w1.heap.size rfl Try.underlying66 Try.underlying5
    have kb : be k.toNat 1 ++ be n.toNat 1 = [UInt8.ofNat k.toNat, UInt8.ofNat n.toNat] := by simp [be, List.range_succ]
    have kk : ((UInt8.ofNat k.toNat).toNat : Int) = k := by rw [UInt8.toNat_ofNat']; omega
    have kn : ((UInt8.ofNat n.toNat).toNat : Int) = n := by rw [UInt8.toNat_ofNat']; omega
    have hr1 : BytesAt ((w1.alloc (.cells #[.int .u8 115, .int .u8 116, .int .u8 97, .int .u8 49] 5 (4, 5))).alloc (.cells #[.int .u8 k, .int .u8 n] 5)) (w1.heap.size + 2) (some ⟨w1.heap.size, 0, none⟩) 4 [115, 116, 97, 49] := by
      refine ⟨rfl, by omega, fun _ => ⟨_, _, rfl, by omega, fun i x hx j v hv => ?_⟩⟩
      rcases j with _ | j
      · rcases i with _ | _ | _ | _ | i <;> simp at hx <;> subst hx <;> simp [byteCell] at hv <;> subst hv <;> (go_simp; rw [World.cell?_alloc_mark]; rfl)
      · simp [byteCell] at hv
    have hr2 : BytesAt ((w1.alloc (.cells #[.int .u8 115, .int .u8 116, .int .u8 97, .int .u8 49] 5 (4, 5))).alloc (.cells #[.int .u8 k, .int .u8 n] 5)) (w1.heap.size + 2) (some ⟨w1.heap.size + 1, 0, none⟩) 2 (be k.toNat 1 ++ be n.toNat 1) := by
      rw [kb]
      refine ⟨rfl, by omega, fun _ => ⟨_, _, rfl, by omega, fun i x hx j v hv => ?_⟩⟩
      rcases j with _ | j
      · rcases i with _ | _ | i <;> simp at hx <;> subst hx <;> simp only [byteCell, List.getElem?_cons_zero, Option.some.injEq] at hv <;> subst hv
        · rw [kk]; go_simp
        · rw [kn]; go_simp
      · simp [byteCell] at hv
    clear kb kk kn
    replace hr1 := Lib.hid hr1
    replace hr2 := Lib.hid hr2
    go_wp2_with (at_builtin; go_must (refine wpList_bytes_full rfl (.tmp 11) (.tmp 20) rfl w1.heap.size w1.heap.size 4 _ rfl _ hr1.out _ 2 _ _ rfl _ hr2.out (by omega) (by omega) (by first | omega | (simp; try omega)) ?_); intro v2 w2 hown2 hg2; have hb2 : Below w1.heap.size w1 w2 := Below.grown (by repeat (first | exact Below.refl _ _ | assumption | refine Below.drew ?_ | refine below_drewN ?_ _ | refine Below.alloc ?_ (by first | omega | (simp; try omega)) _ | refine Below.setCell ?_ (by first | omega | (simp; try omega)) _ | (refine Below.trans ?_ (Below.mono (by assumption) (by first | omega | (simp; try omega)))))) hg2 (by first | omega | (simp; try omega)) (fun _ hi => by cases hi); have hz2 := hg2.size; (try simp at hz2); have e2 := e1.trans (hb2.mono (by omega)); have f2 := f1.trans (hb2.mono (by omega)); clear x0 x1 x2 x3 x4 x5 hcv hr1 hr2; obtain ⟨x0, x1, x2, x3, x4, x5⟩ := stBox_cells e2; replace hown2 := Lib.hid hown2)
    obtain ⟨bx, hbx⟩ : ∃ l, l = be next.toNat 4 := ⟨_, rfl⟩
    refine (bytes_as hbx (by omega) (by omega) (by omega) _).mono ?_
    rintro e w3 ⟨A4, c4, rfl, hr3, hb3⟩
    have hz3 := hb3.size
    have hb3' : Below w1.heap.size w1 w3 := hb2.trans (hb3.mono (by omega))
    have hw3 := Lib.hid (hown2.out.below hb3)
    have hbl4 : bx.length = 4 := by rw [hbx, be_len]
    have tok1 : True := trivial
    have kn1 : ((UInt8.ofNat n1).toNat : Int) = n1 := by rw [UInt8.toNat_ofNat']; omega
    have hy5 : Hid (∀ W : World, ∀ j u, (byteCell (UInt8.ofNat n1))[j]? = some u → (W.alloc (.cells #[.int .u8 n1] 5)).cell? ⟨W.heap.size, j, none⟩ = some u) := by
      intro W j u hu
      rcases j with _ | j
      · simp only [byteCell, List.getElem?_cons_zero, Option.some.injEq] at hu
        subst hu
        rw [kn1]
        go_simp
      · simp [byteCell] at hu
    clear kn1
    go_wp2_with (first
      | (at_builtin; have _t := tok1; go_must (refine Elem.wpList_row byteE rfl (.tmp 22) (.tmp 25) rfl w1.heap.size _ _ rfl _ _ _ _ rfl hw3.out _ hr3 (by simp [be_len]) (by first | omega | (simp; try omega)) ?_); intro v4 w4 hown4 hg4 _; have hb4 : Below w1.heap.size w1 w4 := Below.grownOwn (by repeat (first | exact Below.refl _ _ | assumption | refine Below.drew ?_ | refine below_drewN ?_ _ | refine Below.alloc ?_ (by first | omega | (simp; try omega)) _ | refine Below.setCell ?_ (by first | omega | (simp; try omega)) _ | (refine Below.trans ?_ (Below.mono (by assumption) (by first | omega | (simp; try omega)))))) (hw3.out) (Nat.le_refl _) (by first | omega | (simp; try omega)) hg4; have hz4 := hg4.size; (try simp at hz4); have e4 := e1.trans (hb4.mono (by omega)); have f4 := f1.trans (hb4.mono (by omega)); clear x0 x1 x2 x3 x4 x5; obtain ⟨x0, x1, x2, x3, x4, x5⟩ := stBox_cells e4; replace hown4 := Lib.hid hown4; clear tok1 _t)
      | (at_builtin; go_must (refine Elem.wpList_one byteE rfl (.tmp 27) (.tmp 32) rfl w1.heap.size _ _ rfl _ _ (UInt8.ofNat n1) rfl (hown4.out.alloc _) (hy5.out _) (by simp [be_len, hbl4]) (by first | omega | (simp; try omega)) ?_); intro v5 w5 hown5 hg5 _; have hb5 : Below w1.heap.size w1 w5 := Below.grownOwn (by repeat (first | exact Below.refl _ _ | assumption | refine Below.drew ?_ | refine below_drewN ?_ _ | refine Below.alloc ?_ (by first | omega | (simp; try omega)) _ | refine Below.setCell ?_ (by first | omega | (simp; try omega)) _ | (refine Below.trans ?_ (Below.mono (by assumption) (by first | omega | (simp; try omega)))))) (hown4.out.alloc _) (Nat.le_refl _) (by first | omega | (simp; try omega)) hg5; have hz5 := hg5.size; (try simp at hz5); have e5 := e1.trans (hb5.mono (by omega)); have f5 := f1.trans (hb5.mono (by omega)); clear x0 x1 x2 x3 x4 x5; obtain ⟨x0, x1, x2, x3, x4, x5⟩ := stBox_cells e5; replace hown5 := Lib.hid hown5))
    have hhd : Hid (([115, 116, 97, 49] ++ (be k.toNat 1 ++ be n.toNat 1) ++ bx) ++ [UInt8.ofNat n1] = headB ⟨k, n, next, sn, cs, ps⟩) := by
      unfold Hid headB
      rw [hbx, l1.out]
      simp [be, List.range_succ]
    have ow5 : Hid (OwnB w5 w1.heap.size v5 (headB ⟨k, n, next, sn, cs, ps⟩)) := by
      have := hown5.out
      rw [hhd.out] at this
      exact this
    have hh11 := headB_len ⟨k, n, next, sn, cs, ps⟩
    obtain ⟨t4, ht4⟩ : ∃ l, l = headB ⟨k, n, next, sn, cs, ps⟩ := ⟨_, rfl⟩
    rw [← ht4] at ow5 hh11
    replace ht4 := Lib.hid ht4
    clear hhd hown5 hbx hy5
    go_loopw [4, 5] (fun v i wr => ∃ j : Nat, j ≤ n1 ∧ i = .int .i64 j ∧ Hid (OwnB wr w1.heap.size v (t4 ++ (sn.take j).flatMap snapB)) ∧ Below w1.heap.size w1 wr) (fun _ i _ => n1 - (intOf i).toNat)
    case atStart => exact ⟨0, Nat.zero_le _, rfl, by simpa using ow5, hb5⟩
    case round =>
      obtain ⟨j, hj, rfl, oB, qb⟩ := hrel
      have hzr := qb.size
      have er := e1.trans (qb.mono (by omega))
      have fr := f1.trans (qb.mono (by omega))
      clear x0 x1 x2 x3 x4 x5
      obtain ⟨x0, x1, x2, x3, x4, x5⟩ := stBox_cells er
      by_cases hlt : j < n1
      · obtain ⟨b, off, s, rfl, hb, hx, r0, r1, r2⟩ := h1.snap hlt
        have hone := gs.out s (List.mem_of_getElem? hx)
        obtain ⟨o1, o2, o3, o4, o5⟩ := mayOne_bounds hone
        have htk : Hid (t4 ++ (sn.take (j + 1)).flatMap snapB = (t4 ++ (sn.take j).flatMap snapB) ++ snapB s) := by
          unfold Hid
          rw [List.take_add_one, hx]
          simp
        have hlen : (t4 ++ (sn.take j).flatMap snapB).length = 11 + j * 44 := by
          rw [List.length_append, hh11, flatMap_len (c := 44) (fun x hx => snapB_len (gs.out x (List.mem_of_mem_take hx))), List.length_take, l1.out, Nat.min_eq_left hj]
        replace hx := Lib.hid hx
        have hi1 : (j : Int) < (n1 : Int) := by omega
        obtain ⟨bi, hbi⟩ : ∃ l, l = be s.id.toNat 4 := ⟨_, rfl⟩
        obtain ⟨bt, hbt⟩ : ∃ l, l = be s.time.toNat 8 := ⟨_, rfl⟩
        have zi : bi.length = 4 := by rw [hbi, be_len]
        have zt : bt.length = 8 := by rw [hbt, be_len]
        obtain ⟨L, hL⟩ : ∃ l, l = t4 ++ (sn.take j).flatMap snapB := ⟨_, rfl⟩
        rw [← hL] at oB hlen htk
        clear hL
        have hfs : Hid (((L ++ bi) ++ bt) ++ bl s.root = t4 ++ (sn.take (j + 1)).flatMap snapB) := by
          unfold Hid
          rw [htk.out, snapB, ← hbi, ← hbt]
          simp
        have k5 := bytes_as hbi (by omega) (by omega) (by omega)
        have k6 := bytes_as hbt (by omega) (by omega) (by omega)
        replace k5 := Lib.hid k5
        replace k6 := Lib.hid k6
        clear hbi hbt htk
        have hroom : Hid (∀ W : World, Below w.heap.size w W → W.cell? ⟨b, off + j * 3, none⟩ = some (.int .i64 s.id) ∧ W.cell? ⟨b, off + j * 3 + 1, none⟩ = some (.int .i64 s.time) ∧ W.cell? ⟨b, off + j * 3 + 2, none⟩ = some (.string s.root)) := fun W hW => by
          refine ⟨?_, ?_, ?_⟩ <;> (rw [hW.cell hb]; assumption)
        clear r0 r1 r2
        obtain ⟨r0, r1, r2⟩ := hroom.out wr fr
        go_wp2_with fail
        refine (k5.out _).mono ?_
        rintro e w6 ⟨A6, c6, rfl, hr6, hb6⟩
        have hz6 := hb6.size
        have q6 : Below w1.heap.size w1 w6 := qb.trans (hb6.mono (by omega))
        have ow6 := Lib.hid (oB.out.below hb6)
        clear r0 r1 r2
        go_wp2_with (at_builtin; go_must (refine Elem.wpList_row byteE rfl (.tmp 41) (.tmp 48) rfl w1.heap.size _ _ rfl _ _ _ _ rfl ow6.out _ hr6 (by omega) (by first | omega | (simp; try omega)) ?_); intro v7 w7 hown7 hg7 _; have hb7 : Below w1.heap.size w1 w7 := Below.grownOwn (by repeat (first | exact Below.refl _ _ | assumption | refine Below.drew ?_ | refine below_drewN ?_ _ | refine Below.alloc ?_ (by first | omega | (simp; try omega)) _ | refine Below.setCell ?_ (by first | omega | (simp; try omega)) _ | (refine Below.trans ?_ (Below.mono (by assumption) (by first | omega | (simp; try omega)))))) (ow6.out) (Nat.le_refl _) (by first | omega | (simp; try omega)) hg7; have hz7 := hg7.size; (try simp at hz7); have e7 := e1.trans (hb7.mono (by omega)); have f7 := f1.trans (hb7.mono (by omega)); clear x0 x1 x2 x3 x4 x5; obtain ⟨x0, x1, x2, x3, x4, x5⟩ := stBox_cells e7; replace hown7 := Lib.hid hown7; obtain ⟨r0, r1, r2⟩ := hroom.out w7 f7)
        refine (k6.out _).mono ?_
        rintro e w8 ⟨A8, c8, rfl, hr8, hb8⟩
        have hz8 := hb8.size
        have q8 : Below w1.heap.size w1 w8 := hb7.trans (hb8.mono (by omega))
        have ow8 := Lib.hid (hown7.out.below hb8)
        clear r0 r1 r2
        have tok2 : True := trivial
        go_wp2_with (first
          | (at_builtin; have _t := tok2; go_must (refine Elem.wpList_row byteE rfl (.tmp 50) (.tmp 57) rfl w1.heap.size _ _ rfl _ _ _ _ rfl ow8.out _ hr8 (by (try simp only [List.length_append]); omega) (by first | omega | (simp; try omega)) ?_); intro v9 w9 hown9 hg9 _; have hb9 : Below w1.heap.size w1 w9 := Below.grownOwn (by repeat (first | exact Below.refl _ _ | assumption | refine Below.drew ?_ | refine below_drewN ?_ _ | refine Below.alloc ?_ (by first | omega | (simp; try omega)) _ | refine Below.setCell ?_ (by first | omega | (simp; try omega)) _ | (refine Below.trans ?_ (Below.mono (by assumption) (by first | omega | (simp; try omega)))))) (ow8.out) (Nat.le_refl _) (by first | omega | (simp; try omega)) hg9; have hz9 := hg9.size; (try simp at hz9); have e9 := e1.trans (hb9.mono (by omega)); have f9 := f1.trans (hb9.mono (by omega)); clear x0 x1 x2 x3 x4 x5; obtain ⟨x0, x1, x2, x3, x4, x5⟩ := stBox_cells e9; replace hown9 := Lib.hid hown9; obtain ⟨r0, r1, r2⟩ := hroom.out w9 f9; clear tok2 _t)
          | (at_builtin; go_must (refine wpList_bytes_str rfl (.tmp 59) (.tmp 65) rfl w1.heap.size _ _ rfl _ rfl hown9.out (by (try simp only [List.length_append]); omega) (by first | omega | (simp; try omega)) ?_); intro v10 w10 hown10 hg10; have hb10 : Below w1.heap.size w1 w10 := Below.grownOwn (by repeat (first | exact Below.refl _ _ | assumption | refine Below.drew ?_ | refine below_drewN ?_ _ | refine Below.alloc ?_ (by first | omega | (simp; try omega)) _ | refine Below.setCell ?_ (by first | omega | (simp; try omega)) _ | (refine Below.trans ?_ (Below.mono (by assumption) (by first | omega | (simp; try omega)))))) (hown9.out) (Nat.le_refl _) (by first | omega | (simp; try omega)) hg10; have hz10 := hg10.size; (try simp at hz10); have e10 := e1.trans (hb10.mono (by omega)); have f10 := f1.trans (hb10.mono (by omega)); clear x0 x1 x2 x3 x4 x5; obtain ⟨x0, x1, x2, x3, x4, x5⟩ := stBox_cells e10; replace hown10 := Lib.hid hown10))
        go_roundw
        case rel => exact ⟨j + 1, by omega, by go_num, by have := hown10.out; rw [hfs.out] at this; exact this, hb10⟩
        case measure => simp [intOf]; omega
      · obtain rfl : j = n1 := by omega
        obtain ⟨L0, hL0⟩ : ∃ l, l = t4 ++ (sn.take j).flatMap snapB := ⟨_, rfl⟩
        have hlen0 : L0.length = 11 + j * 44 := by
          rw [hL0, List.length_append, hh11, flatMap_len (c := 44) (fun x hx => snapB_len (gs.out x (List.mem_of_mem_take hx))), List.length_take, l1.out, Nat.min_eq_left hj]
        obtain ⟨bc, hbc⟩ : ∃ l, l = be ((n2 : Int)).toNat 2 := ⟨_, rfl⟩
        have zc : bc.length = 2 := by rw [hbc, be_len]
        have k7 := bytes_as hbc (by omega) (by omega) (by omega)
        have hfin : Hid (stB ⟨k, n, next, sn, cs, ps⟩ = (L0 ++ bc) ++ zipB cs ps) := by
          unfold Hid stB
          rw [hL0, ← ht4.out, hbc]
          dsimp only
          rw [l2.out, List.take_of_length_le (by rw [l1.out]; omega)]
          simp
        rw [← hL0] at oB
        replace k7 := Lib.hid k7
        clear hL0 hbc
        go_wp2_with fail
        refine (k7.out _).mono ?_
        rintro e w11 ⟨A11, c11, rfl, hr11, hb11⟩
        have hz11 := hb11.size
        have q11 : Below w1.heap.size w1 w11 := qb.trans (hb11.mono (by omega))
        have ow11 := Lib.hid (oB.out.below hb11)
        go_wp2_with (at_builtin; go_must (refine Elem.wpList_row byteE rfl (.tmp 67) (.tmp 71) rfl w1.heap.size _ _ rfl _ _ _ _ rfl ow11.out _ hr11 (by omega) (by first | omega | (simp; try omega)) ?_); intro v12 w12 hown12 hg12 _; have hb12 : Below w1.heap.size w1 w12 := Below.grownOwn (by repeat (first | exact Below.refl _ _ | assumption | refine Below.drew ?_ | refine below_drewN ?_ _ | refine Below.alloc ?_ (by first | omega | (simp; try omega)) _ | refine Below.setCell ?_ (by first | omega | (simp; try omega)) _ | (refine Below.trans ?_ (Below.mono (by assumption) (by first | omega | (simp; try omega)))))) (ow11.out) (Nat.le_refl _) (by first | omega | (simp; try omega)) hg12; have hz12 := hg12.size; (try simp at hz12); have e12 := e1.trans (hb12.mono (by omega)); have f12 := f1.trans (hb12.mono (by omega)); clear x0 x1 x2 x3 x4 x5; obtain ⟨x0, x1, x2, x3, x4, x5⟩ := stBox_cells e12; replace hown12 := Lib.hid hown12)
        obtain ⟨d0, hd0⟩ : ∃ l, l = L0 ++ bc := ⟨_, rfl⟩
        have hd0l : d0.length = 13 + j * 44 := by rw [hd0, List.length_append]; omega
        rw [← hd0] at hown12 hfin
        clear hd0
        go_loopw [4, 6] (fun v i wr => ∃ q : Nat, q ≤ n2 ∧ i = .int .i64 q ∧ Hid (OwnB wr w1.heap.size v (d0 ++ zipB (cs.take q) (ps.take q))) ∧ Below w1.heap.size w1 wr) (fun _ i _ => n2 - (intOf i).toNat)
        case atStart => exact ⟨0, Nat.zero_le _, rfl, by simp only [List.take_zero, zipB, List.append_nil]; exact hown12, hb12⟩
        case round =>
          obtain ⟨q, hq, rfl, oC, qc⟩ := hrel
          have hzr := qc.size
          have er := e1.trans (qc.mono (by omega))
          have fr := f1.trans (qc.mono (by omega))
          clear x0 x1 x2 x3 x4 x5
          obtain ⟨x0, x1, x2, x3, x4, x5⟩ := stBox_cells er
          by_cases hlt2 : q < n2
          · obtain ⟨b, off, c, rfl, hb, hc, y0⟩ := h2.str hlt2
            obtain ⟨b', off', p, rfl, hb', hp, p0, p1, p2⟩ := h3.place (i := q) (by have := gc1.out; rw [l2.out, l3.out] at this; omega)
            have hcz := gcs.out c (List.mem_of_getElem? hc)
            have hpm := gps.out p (List.mem_of_getElem? hp)
            have hpz := mayPlace_size hpm
            obtain ⟨m1, m2, m3, m4, m5⟩ := mayPlace_bounds hpm
            have htk : Hid (d0 ++ zipB (cs.take (q + 1)) (ps.take (q + 1)) = (d0 ++ zipB (cs.take q) (ps.take q)) ++ chunkB c p) := by
              unfold Hid
              rw [zipB_take hc hp, List.append_assoc]
            have hlen2 : (d0 ++ zipB (cs.take q) (ps.take q)).length = 13 + j * 44 + q * 72 := by
              rw [List.length_append, hd0l, zipB_len (by simp [gc1.out]) (fun x hx => gcs.out x (List.mem_of_mem_take hx)) (fun x hx => gps.out x (List.mem_of_mem_take hx)), List.length_take, l2.out, Nat.min_eq_left hq]
            replace hc := Lib.hid hc
            replace hp := Lib.hid hp
            have hi1 : (q : Int) < (n2 : Int) := by omega
            have hi2 : (q : Int) < (n3 : Int) := by have := gc1.out; rw [l2.out, l3.out] at this; omega
            obtain ⟨ba, hba⟩ : ∃ l, l = be p.at_.toNat 4 := ⟨_, rfl⟩
            obtain ⟨bn, hbn⟩ : ∃ l, l = be p.len.toNat 4 := ⟨_, rfl⟩
            have za : ba.length = 4 := by rw [hba, be_len]
            have zn : bn.length = 4 := by rw [hbn, be_len]
            obtain ⟨L, hL⟩ : ∃ l, l = d0 ++ zipB (cs.take q) (ps.take q) := ⟨_, rfl⟩
            rw [← hL] at oC hlen2 htk
            clear hL
            have zcc : (bl c).length = 32 := by rw [bl_len, hcz]
            have zpp : (bl p.pack).length = 32 := by rw [bl_len, hpz]
            have hfs : Hid ((((L ++ bl c) ++ bl p.pack) ++ ba) ++ bn = d0 ++ zipB (cs.take (q + 1)) (ps.take (q + 1))) := by
              unfold Hid
              rw [htk.out, chunkB, ← hba, ← hbn]
              simp
            have k8 := bytes_as hba (by omega) (by omega) (by omega)
            have k9 := bytes_as hbn (by omega) (by omega) (by omega)
            replace k8 := Lib.hid k8
            replace k9 := Lib.hid k9
            clear hba hbn htk
            have hroom : Hid (∀ W : World, Below w.heap.size w W → W.cell? ⟨b, off + q, none⟩ = some (.string c) ∧ W.cell? ⟨b', off' + q * 3, none⟩ = some (.string p.pack) ∧ W.cell? ⟨b', off' + q * 3 + 1, none⟩ = some (.int .i64 p.at_) ∧ W.cell? ⟨b', off' + q * 3 + 2, none⟩ = some (.int .i64 p.len)) := fun W hW => by
              refine ⟨?_, ?_, ?_, ?_⟩ <;> (first | (rw [hW.cell hb]; assumption) | (rw [hW.cell hb']; assumption))
            clear y0 p0 p1 p2
            obtain ⟨y0, p0, p1, p2⟩ := hroom.out wr fr
            have tok3 : True := trivial
            go_wp2_with (first
              | (at_builtin; have _t := tok3; go_must (refine wpList_bytes_str rfl (.tmp 80) (.tmp 85) rfl w1.heap.size _ _ rfl _ rfl oC.out (by (try simp only [List.length_append]); omega) (by first | omega | (simp; try omega)) ?_); intro v13 w13 hown13 hg13; have hb13 : Below w1.heap.size w1 w13 := Below.grownOwn (by repeat (first | exact Below.refl _ _ | assumption | refine Below.drew ?_ | refine below_drewN ?_ _ | refine Below.alloc ?_ (by first | omega | (simp; try omega)) _ | refine Below.setCell ?_ (by first | omega | (simp; try omega)) _ | (refine Below.trans ?_ (Below.mono (by assumption) (by first | omega | (simp; try omega)))))) (oC.out) (Nat.le_refl _) (by first | omega | (simp; try omega)) hg13; have hz13 := hg13.size; (try simp at hz13); have e13 := e1.trans (hb13.mono (by omega)); have f13 := f1.trans (hb13.mono (by omega)); clear x0 x1 x2 x3 x4 x5; obtain ⟨x0, x1, x2, x3, x4, x5⟩ := stBox_cells e13; replace hown13 := Lib.hid hown13; clear y0 p0 p1 p2; obtain ⟨y0, p0, p1, p2⟩ := hroom.out w13 f13; clear tok3 _t)
              | (at_builtin; go_must (refine wpList_bytes_str rfl (.tmp 87) (.tmp 93) rfl w1.heap.size _ _ rfl _ rfl hown13.out (by (try simp only [List.length_append]); omega) (by first | omega | (simp; try omega)) ?_); intro v14 w14 hown14 hg14; have hb14 : Below w1.heap.size w1 w14 := Below.grownOwn (by repeat (first | exact Below.refl _ _ | assumption | refine Below.drew ?_ | refine below_drewN ?_ _ | refine Below.alloc ?_ (by first | omega | (simp; try omega)) _ | refine Below.setCell ?_ (by first | omega | (simp; try omega)) _ | (refine Below.trans ?_ (Below.mono (by assumption) (by first | omega | (simp; try omega)))))) (hown13.out) (Nat.le_refl _) (by first | omega | (simp; try omega)) hg14; have hz14 := hg14.size; (try simp at hz14); have e14 := e1.trans (hb14.mono (by omega)); have f14 := f1.trans (hb14.mono (by omega)); clear x0 x1 x2 x3 x4 x5; obtain ⟨x0, x1, x2, x3, x4, x5⟩ := stBox_cells e14; replace hown14 := Lib.hid hown14; clear y0 p0 p1 p2; obtain ⟨y0, p0, p1, p2⟩ := hroom.out w14 f14))
            refine (k8.out _).mono ?_
            rintro e w15 ⟨A15, c15, rfl, hr15, hb15⟩
            have hz15 := hb15.size
            have q15 : Below w1.heap.size w1 w15 := hb14.trans (hb15.mono (by omega))
            have ow15 := Lib.hid (hown14.out.below hb15)
            clear y0 p0 p1 p2
            go_wp2_with (at_builtin; go_must (refine Elem.wpList_row byteE rfl (.tmp 95) (.tmp 102) rfl w1.heap.size _ _ rfl _ _ _ _ rfl ow15.out _ hr15 (by (try simp only [List.length_append]); omega) (by first | omega | (simp; try omega)) ?_); intro v16 w16 hown16 hg16 _; have hb16 : Below w1.heap.size w1 w16 := Below.grownOwn (by repeat (first | exact Below.refl _ _ | assumption | refine Below.drew ?_ | refine below_drewN ?_ _ | refine Below.alloc ?_ (by first | omega | (simp; try omega)) _ | refine Below.setCell ?_ (by first | omega | (simp; try omega)) _ | (refine Below.trans ?_ (Below.mono (by assumption) (by first | omega | (simp; try omega)))))) (ow15.out) (Nat.le_refl _) (by first | omega | (simp; try omega)) hg16; have hz16 := hg16.size; (try simp at hz16); have e16 := e1.trans (hb16.mono (by omega)); have f16 := f1.trans (hb16.mono (by omega)); clear x0 x1 x2 x3 x4 x5; obtain ⟨x0, x1, x2, x3, x4, x5⟩ := stBox_cells e16; replace hown16 := Lib.hid hown16; obtain ⟨y0, p0, p1, p2⟩ := hroom.out w16 f16)
            refine (k9.out _).mono ?_
            rintro e w17 ⟨A17, c17, rfl, hr17, hb17⟩
            have hz17 := hb17.size
            have q17 : Below w1.heap.size w1 w17 := hb16.trans (hb17.mono (by omega))
            have ow17 := Lib.hid (hown16.out.below hb17)
            clear y0 p0 p1 p2
            go_wp2_with (at_builtin; go_must (refine Elem.wpList_row byteE rfl (.tmp 104) (.tmp 111) rfl w1.heap.size _ _ rfl _ _ _ _ rfl ow17.out _ hr17 (by (try simp only [List.length_append]); omega) (by first | omega | (simp; try omega)) ?_); intro v18 w18 hown18 hg18 _; have hb18 : Below w1.heap.size w1 w18 := Below.grownOwn (by repeat (first | exact Below.refl _ _ | assumption | refine Below.drew ?_ | refine below_drewN ?_ _ | refine Below.alloc ?_ (by first | omega | (simp; try omega)) _ | refine Below.setCell ?_ (by first | omega | (simp; try omega)) _ | (refine Below.trans ?_ (Below.mono (by assumption) (by first | omega | (simp; try omega)))))) (ow17.out) (Nat.le_refl _) (by first | omega | (simp; try omega)) hg18; have hz18 := hg18.size; (try simp at hz18); have e18 := e1.trans (hb18.mono (by omega)); have f18 := f1.trans (hb18.mono (by omega)); clear x0 x1 x2 x3 x4 x5; obtain ⟨x0, x1, x2, x3, x4, x5⟩ := stBox_cells e18; replace hown18 := Lib.hid hown18)
            go_roundw
            case rel => exact ⟨q + 1, by omega, by go_num, by have := hown18.out; rw [hfs.out] at this; exact this, hb18⟩
            case measure => simp [intOf]; omega
          · obtain rfl : q = n2 := by omega
            have oE := oC.out
            rw [List.take_of_length_le (by rw [l2.out]; omega), List.take_of_length_le (by rw [← gc1.out, l2.out]; omega), ← hfin.out] at oE
            obtain ⟨AE, cE, rfl⟩ := oE.form
            have hcv := run_bytes_str (c := cE) (oE.row byteCell_len)
            replace oE := Lib.hid oE
            replace oC := Lib.hid oC
            go_wp2_with fail
            go_ret2
            exact ⟨by rw [hres.out]; rfl, (by repeat (first | exact Below.refl _ _ | assumption | refine Below.drew ?_ | refine below_drewN ?_ _ | refine Below.alloc ?_ (by first | omega | (simp; try omega)) _ | refine Below.setCell ?_ (by first | omega | (simp; try omega)) _ | (refine Below.trans ?_ (Below.mono (by assumption) (by first | omega | (simp; try omega))))))⟩
  · replace hs : mayState s = false := by simpa using hs
    rw [hs] at hM
    have hres : Hid (makeRes s = (⟨#[]⟩, 4)) := by unfold Hid makeRes; rw [if_neg (by rw [hs]; simp)]
    obtain ⟨k, n, next, sn, cs, ps⟩ := s
    obtain ⟨A1, n1, c1, A2, n2, c2, A3, n3, c3⟩ := v
    unfold Rws.val stv at hM ⊢
    go_enter Try.func20, Try.ntmps20
    go_wp2_with fail
    refine (hM.out _ (by repeat (first | exact Below.refl _ _ | assumption | refine Below.drew ?_ | refine below_drewN ?_ _ | refine Below.alloc ?_ (by first | omega | (simp; try omega)) _ | refine Below.setCell ?_ (by first | omega | (simp; try omega)) _ | (refine Below.trans ?_ (Below.mono (by assumption) (by first | omega | (simp; try omega))))))).mono ?_
    rintro e w1 ⟨rfl, hb1⟩
    go_wp2_with fail
    go_ret2
    exact ⟨by rw [hres.out]; rfl, (by repeat (first | exact Below.refl _ _ | assumption | refine Below.drew ?_ | refine below_drewN ?_ _ | refine Below.alloc ?_ (by first | omega | (simp; try omega)) _ | refine Below.setCell ?_ (by first | omega | (simp; try omega)) _ | (refine Below.trans ?_ (Below.mono (by assumption) (by first | omega | (simp; try omega))))))⟩
end Go.Proofs.Ythbmbbbojpdlaaa
