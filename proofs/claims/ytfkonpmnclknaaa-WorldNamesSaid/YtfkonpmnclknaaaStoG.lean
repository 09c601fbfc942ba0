/-
  Objects and Copy.
-/
import Derived.Test.YtfkonpmnclknaaaStoE
namespace Go.Proofs.Ytfkonpmnclknaaa
open Go.RowKit Go.Maps
attribute [local go_sem ↓] Go.wp_at_zero Go.wp_at_succ

def obCells (p : Ob) : List Value := [.string p.1, .string p.2]
def objE : Elem Ob where
  T := 30
  S := 47
  k := 2
  bytes := 32
  enc := obCells
  z := .agg #[.string ⟨#[]⟩, .string ⟨#[]⟩]
  und := Try.underlying47
  info := by kernel_rfl
  zc := rfl
  pos := by decide
  small := by decide
  len := fun _ => rfl
  one := fun x u hu => by simp [obCells] at hu; rcases hu with rfl | rfl <;> rfl

set_option maxHeartbeats 4000000 in
theorem store_Objects (b : Nat) (F : List Nat) (N : Nat) (s : Sto) (w : World) (h : StoAt w b F N s) :
    Calls Try.prog 26 #[.pointer (some ⟨b, 0, none⟩)] w fun e w' => ∃ v, e = .returned v ∧ objE.Own w' w.heap.size v s.seen ∧ Below w.heap.size w w' := by
  have hk := store_names b F N s w h
  obtain ⟨gm, sm, V, rfl, h⟩ := h
  have hh := Lib.hid h
  have hnm := Lib.hid h.seen.names
  have hlen : s.seen.length ≤ 1000000 := Nat.le_trans h.seen.len h.cap
  obtain ⟨c0, c1, c2, c3, c4, c5⟩ := h.box.cells
  clear h
  go_enter Try.func26, Try.ntmps26
  go_wp2_with fail
  refine hk.mono ?_
  rintro e w1 ⟨v, rfl, ho, hb⟩
  obtain ⟨n, hn⟩ : ∃ n, n = s.seen.length := ⟨_, rfl⟩
  obtain ⟨A, c, rfl⟩ : ∃ A c, v = .slice A n c := by obtain ⟨A, c, e⟩ := Owns.form ho; exact ⟨A, c, by rw [e, hn, List.length_map]⟩
  have rn := Lib.hid (ho.row strCell_len)
  rw [← hn] at hlen
  replace hn := Lib.hid hn
  clear ho c0 c1 c2 c3 c4 c5
  go_wp2_with fail
  go_loopw [3, 5, 11] (fun v _ i wr => ∃ j : Nat, j ≤ n ∧ i = .int .i64 j ∧ objE.Own wr w1.heap.size v (s.seen.take j) ∧ Below w1.heap.size w1 wr) (fun _ _ i _ => n - (intOf i).toNat)
  case atStart => exact ⟨0, Nat.zero_le _, rfl, Owns.nil_, Below.refl _ _⟩
  case round =>
    obtain ⟨j, hj, rfl, hown, hbr⟩ := hrel
    obtain ⟨wp, rfl⟩ : ∃ x : World, x = wr := ⟨_, rfl⟩
    have hzr := hbr.size
    by_cases hlt : j < n
    · have hjl : j < s.seen.length := by have := hn.out; omega
      obtain ⟨b0, off, x, rfl, hb0, hx, q0⟩ := (rn.out.to hbr).str hlt
      have hp : s.seen[j]? = some (s.seen[j]) := List.getElem?_eq_getElem hjl
      obtain ⟨p, hpp⟩ : ∃ p, p = s.seen[j] := ⟨_, rfl⟩
      rw [← hpp] at hp
      have ex : x = p.1 := by rw [List.getElem?_map, hp] at hx; simpa using hx.symm
      subst ex
      have hlo := mem_lookO hh.out.seen.rise (List.mem_of_getElem? hp)
      have hhr := hh.out.block fun i hi => (hb.trans (hbr.mono hb.size)).block i (hh.out.lt i hi)
      obtain ⟨c0, c1, c2, c3, c4, c5⟩ := hhr.box.cells
      have hlk : (Instr.lookup 66 (.map (some sm)) (.string p.1) false).run Try.prog wp = .ok (.string p.2) wp := by
        have := hhr.seen.look p.1 (hnm.out p (List.mem_of_getElem? hp)) 0
        rw [hlo] at this
        exact this
      have ht : Hid (s.seen.take (j + 1) = s.seen.take j ++ [p]) := by unfold Hid; rw [List.take_add_one, hp]; rfl
      have hl : (s.seen.take j).length ≤ 1000000000 := by simp; omega
      replace hp := Lib.hid hp
      replace hx := Lib.hid hx
      replace hlo := Lib.hid hlo
      replace hpp := Lib.hid hpp
      replace hhr := Lib.hid hhr
      go_wp2_with (at_builtin; go_must (refine Elem.wpList_one objE rfl (.tmp 15) (.tmp 24) rfl (w1.heap.size) _ (s.seen.take j) rfl _ _ p rfl (hown.alloc _) (fun j u hu => by rcases j with _ | _ | _ | j <;> simp [objE, obCells] at hu <;> subst hu <;> go_simp) (by first | omega | (simp; omega)) (by first | omega | (simp; try omega)) ?_); intro v4 w4 hown4 hg4 hat4)
      go_roundw
      case rel => exact ⟨j + 1, by omega, by go_num, by rw [ht.out]; exact hown4, Below.grownOwn (hbr.alloc hbr.size _) (hown.alloc _) (Nat.le_refl _) (by have := hbr.size; simp; omega) hg4⟩
      case measure => simp [intOf]; omega
    · obtain rfl : j = n := by omega
      have ht : s.seen.take j = s.seen := List.take_of_length_le (by have := hn.out; omega)
      rw [ht] at hown
      replace ht := Lib.hid ht
      obtain ⟨A9, m9, c9, rfl⟩ : ∃ A m c, u3 = .slice A m c := by obtain ⟨A, c, e⟩ := Owns.form hown; exact ⟨A, _, c, e⟩
      go_wp2_with fail
      go_ret
      exact ⟨_, rfl, Owns.from hown hb.size, hb.trans (hbr.mono hb.size)⟩

set_option maxHeartbeats 1000000 in
theorem clone_writes (A : Option Addr) (n c : Nat) (l : List Wr) (w : World) (h : writeE.At w w.heap.size A n l) (hn9 : n ≤ 1000000) :
    Calls Try.prog 62 #[.slice A n c] w fun e w' => ∃ v, e = .returned v ∧ writeE.Own w' w.heap.size v l ∧ Below w.heap.size w w' := by
  have hn := h.2.1
  have heq := fun (W : World) => Lib.run_eql_slice_nil (P := Try.prog) W 67 83 A n c 0 0 Try.underlying67
  cases A with
  | none =>
    have h0 : n = 0 := by
      rcases Nat.eq_zero_or_pos n with h0 | h0
      · exact h0
      · obtain ⟨_, _, e, _⟩ := h.2.2 h0; cases e
    have hl : l = [] := List.eq_nil_of_length_eq_zero (by rw [h.1]; exact h0)
    subst hl
    clear h0
    go_enter Try.func62, Try.ntmps62
    go_wp2
    go_ret
    exact ⟨.slice none 0 0, rfl, Owns.nil_, (by repeat (first | exact Below.refl _ _ | assumption | refine Below.drew ?_ | refine below_drewN ?_ _ | refine Below.alloc ?_ (by first | omega | (simp; try omega)) _ | refine Below.setCell ?_ (by first | omega | (simp; try omega)) _ | (refine Below.trans ?_ (Below.mono (by assumption) (by first | omega | (simp; try omega))))))⟩
  | some a =>
    go_enter Try.func62, Try.ntmps62
    go_wp2_with (at_builtin; go_must (refine Elem.wpList_row writeE rfl (.tmp 5) (.tmp 6) rfl w.heap.size (.slice (some ⟨w.heap.size, 0, none⟩) 0 0) [] rfl (some a) n c l rfl (Owns.emptyAt w rfl (Nat.le_refl _)) w.heap.size (h.below (by repeat (first | exact Below.refl _ _ | assumption | refine Below.drew ?_ | refine below_drewN ?_ _ | refine Below.alloc ?_ (by first | omega | (simp; try omega)) _ | refine Below.setCell ?_ (by first | omega | (simp; try omega)) _ | (refine Below.trans ?_ (Below.mono (by assumption) (by first | omega | (simp; try omega))))))) (by simp; omega) (by first | omega | (simp; try omega)) ?_; intro v' w1 hown hg hat))
    go_ret
    rw [List.nil_append] at hown
    exact ⟨v', rfl, hown, Below.grownOwn (by repeat (first | exact Below.refl _ _ | assumption | refine Below.drew ?_ | refine below_drewN ?_ _ | refine Below.alloc ?_ (by first | omega | (simp; try omega)) _ | refine Below.setCell ?_ (by first | omega | (simp; try omega)) _ | (refine Below.trans ?_ (Below.mono (by assumption) (by first | omega | (simp; try omega)))))) (Owns.emptyAt (k := writeE.k) (enc := writeE.enc) (T := writeE.T) w rfl (Nat.le_refl _)) (Nat.le_refl _) (by first | omega | (simp; try omega)) hg⟩

set_option maxHeartbeats 4000000 in
set_option maxRecDepth 100000 in
theorem store_Copy (b : Nat) (F : List Nat) (N : Nat) (s : Sto) (w : World) (h : StoAt w b F N s) :
    Calls Try.prog 13 #[.pointer (some ⟨b, 0, none⟩)] w fun e w' => e = .returned (.pointer (some ⟨w.heap.size, 0, none⟩)) ∧ ∃ F', StoAt w' w.heap.size F' N s ∧ Below w.heap.size w w' ∧ ∀ i ∈ F', w.heap.size ≤ i := by
  obtain ⟨gm, sm, V, rfl, h⟩ := h
  obtain ⟨A, n, c, rfl⟩ : ∃ A m c, V = .slice A m c := by obtain ⟨A, c, e⟩ := Owns.form h.own; exact ⟨A, _, c, e⟩
  have rw9 := Owns.row (k := 3) (fun x : Wr => writeE.len x) h.own
  have hn9 : n ≤ 1000000 := by have := rw9.1; have := h.len; have := h.cap; omega
  have hlt := h.lt
  obtain ⟨c0, c1, c2, c3, c4, c5⟩ := h.box.cells
  have hh := Lib.hid h
  replace rw9 := Lib.hid rw9
  have bx0 := Lib.hid (SB.new w (.map (some gm)) (.slice A n c) (.map (some sm)) (.bool s.down) (.int .i64 s.refuse) (.int .i64 s.room))
  have hlb := h.box.lt
  clear h
  go_enter Try.func13, Try.ntmps13
  go_upto_region 4 with fail
  have hz0 : (w.alloc (.cells #[.map (some gm), .slice A n c, .map (some sm), .bool s.down, .int .i64 s.refuse, .int .i64 s.room] 69)).heap.size = w.heap.size + 1 := by simp
  have hb0 : Below w.heap.size w (w.alloc (.cells #[.map (some gm), .slice A n c, .map (some sm), .bool s.down, .int .i64 s.refuse, .int .i64 s.room] 69)) := (Below.refl _ w).alloc (Nat.le_refl _) _
  generalize (w.alloc (.cells #[.map (some gm), .slice A n c, .map (some sm), .bool s.down, .int .i64 s.refuse, .int .i64 s.room] 69)) = w0 at bx0 hz0 hb0 ⊢
  have h0 := hh.out.block fun i hi => hb0.block i (hlt i hi)
  have hS : ∀ W, Below w0.heap.size w0 W → W.cell? ⟨b, 0, none⟩ = some (.map (some gm)) ∧ W.cell? ⟨b, 1, none⟩ = some (.slice A n c) ∧ W.cell? ⟨b, 2, none⟩ = some (.map (some sm)) := fun W hW => by
    obtain ⟨d0, d1, d2, _, _, _⟩ := (h0.block fun i hi => hW.block i (h0.lt i hi)).box.cells
    exact ⟨d0, d1, d2⟩
  have hd : Below w0.heap.size w0 w0.drew := (Below.refl _ _).drew
  have g0 := h0.good.drew
  have r0 := rw9.out.to (hb0.drew)
  clear c0 c1 c2 c3 c4 c5
  refine region_held_tail 15 (fun W : World => W.cell? ⟨b, 0, none⟩ = some (.map (some gm)) ∧ W.cell? ⟨b, 1, none⟩ = some (.slice A n c) ∧ W.cell? ⟨b, 2, none⟩ = some (.map (some sm))) (by kernel_rfl) (by kernel_rfl) ?_
  have hHeld : (fun W : World => W.cell? ⟨b, 0, none⟩ = some (.map (some gm)) ∧ W.cell? ⟨b, 1, none⟩ = some (.slice A n c) ∧ W.cell? ⟨b, 2, none⟩ = some (.map (some sm))) w0.drew := hS _ hd
  (refine HT.takeL (i := 0) (v := ?_) rfl (by kernel_rfl) (fun _ _ _ h => h) (Or.inl ⟨by rfl, ?_⟩) (by assumption) ?_
   rotate_left
   · (intro w hSw; (try dsimp only at hSw); go_simp; (try with_reducible rfl))
   try simp only [Act.put, List.setIfInBounds_toArray, List.set_cons_zero, List.set_cons_succ])
  (refine HT.takeL (i := 1) (v := ?_) rfl (by kernel_rfl) (fun _ _ _ h => h) (Or.inl ⟨by rfl, ?_⟩) (by assumption) ?_
   rotate_left
   · (intro w hSw; (try dsimp only at hSw); go_simp; (try with_reducible rfl))
   try simp only [Act.put, List.setIfInBounds_toArray, List.set_cons_zero, List.set_cons_succ])
  (refine HT.takeL (i := 2) (v := ?_) rfl (by kernel_rfl) (fun _ _ _ h => h) (Or.inl ⟨by rfl, ?_⟩) (by assumption) ?_
   rotate_left
   · (intro w hSw; (try dsimp only at hSw); go_simp; (try with_reducible rfl))
   try simp only [Act.put, List.setIfInBounds_toArray, List.set_cons_zero, List.set_cons_succ])
  (refine HT.takeL (i := 3) (v := ?_) rfl (by kernel_rfl) (fun _ _ _ h => h) (Or.inl ⟨by rfl, ?_⟩) (by assumption) ?_
   rotate_left
   · (intro w hSw; (try dsimp only at hSw); go_simp; (try with_reducible rfl))
   try simp only [Act.put, List.setIfInBounds_toArray, List.set_cons_zero, List.set_cons_succ])
  (refine HT.takeL (i := 5) (v := ?_) rfl (by kernel_rfl) (fun _ _ _ h => h) (Or.inl ⟨by rfl, ?_⟩) (by assumption) ?_
   rotate_left
   · (intro w hSw; (try dsimp only at hSw); go_simp; (try with_reducible rfl))
   try simp only [Act.put, List.setIfInBounds_toArray, List.set_cons_zero, List.set_cons_succ])
  (refine HT.takeL (i := 6) (v := ?_) rfl (by kernel_rfl) (fun _ _ _ h => h) (Or.inl ⟨by rfl, ?_⟩) (by assumption) ?_
   rotate_left
   · (intro w hSw; (try dsimp only at hSw); go_simp; (try with_reducible rfl))
   try simp only [Act.put, List.setIfInBounds_toArray, List.set_cons_zero, List.set_cons_succ])
  (refine HT.takeL (i := 7) (v := ?_) rfl (by kernel_rfl) (fun _ _ _ h => h) (Or.inl ⟨by rfl, ?_⟩) (by assumption) ?_
   rotate_left
   · (intro w hSw; (try dsimp only at hSw); go_simp; (try with_reducible rfl))
   try simp only [Act.put, List.setIfInBounds_toArray, List.set_cons_zero, List.set_cons_succ])
  (refine HT.takeL (i := 8) (v := ?_) rfl (by kernel_rfl) (fun _ _ _ h => h) (Or.inl ⟨by rfl, ?_⟩) (by assumption) ?_
   rotate_left
   · (intro w hSw; (try dsimp only at hSw); go_simp; (try with_reducible rfl))
   try simp only [Act.put, List.setIfInBounds_toArray, List.set_cons_zero, List.set_cons_succ])
  (refine HT.takeL (i := 10) (v := ?_) rfl (by kernel_rfl) (fun _ _ _ h => h) (Or.inl ⟨by rfl, ?_⟩) (by assumption) ?_
   rotate_left
   · (intro w hSw; (try dsimp only at hSw); go_simp; (try with_reducible rfl))
   try simp only [Act.put, List.setIfInBounds_toArray, List.set_cons_zero, List.set_cons_succ])
  (refine HT.takeL (i := 11) (v := ?_) rfl (by kernel_rfl) (fun _ _ _ h => h) (Or.inl ⟨by rfl, ?_⟩) (by assumption) ?_
   rotate_left
   · (intro w hSw; (try dsimp only at hSw); go_simp; (try with_reducible rfl))
   try simp only [Act.put, List.setIfInBounds_toArray, List.set_cons_zero, List.set_cons_succ])
  (refine HT.takeL (i := 12) (v := ?_) rfl (by kernel_rfl) (fun _ _ _ h => h) (Or.inl ⟨by rfl, ?_⟩) (by assumption) ?_
   rotate_left
   · (intro w hSw; (try dsimp only at hSw); go_simp; (try with_reducible rfl))
   try simp only [Act.put, List.setIfInBounds_toArray, List.set_cons_zero, List.set_cons_succ])
  (refine HT.takeL (i := 13) (v := ?_) rfl (by kernel_rfl) (fun _ _ _ h => h) (Or.inl ⟨by rfl, ?_⟩) (by assumption) ?_
   rotate_left
   · (intro w hSw; (try dsimp only at hSw); go_simp; (try with_reducible rfl))
   try simp only [Act.put, List.setIfInBounds_toArray, List.set_cons_zero, List.set_cons_succ])
  (refine HT.onlyL (i := 4) rfl (by kernel_rfl) (fun K hK => ?_)
   (go_simp; (refine (maps_CloneS gm N s.good w0.drew g0).mono ?_; rintro e w1 ⟨rfl, m1, z1, b1⟩; have t1 := hd.trans b1))
   refine hK.out _ _ ?_ (fun hHeld => ?_)
   · (exact hS _ t1)
   clear hK K
   try simp only [Act.put, List.setIfInBounds_toArray, List.set_cons_zero, List.set_cons_succ])
  (refine HT.onlyL (i := 9) rfl (by kernel_rfl) (fun K hK => ?_)
   (go_simp; (refine (maps_CloneS sm N s.seen w1 (h0.seen.below h0.seen.lt t1)).mono ?_; rintro e w2 ⟨rfl, m2, z2, b2⟩; have t2 := t1.trans (b2.mono (by simp at z1; omega))))
   refine hK.out _ _ ?_ (fun hHeld => ?_)
   · (exact hS _ t2)
   clear hK K
   try simp only [Act.put, List.setIfInBounds_toArray, List.set_cons_zero, List.set_cons_succ])
  (refine HT.onlyL (i := 14) rfl (by kernel_rfl) (fun K hK => ?_)
   (go_simp; (refine (clone_writes A n c s.writes w2 ((r0.to b1).to b2) hn9).mono ?_; rintro e w3 ⟨v3, rfl, o3, b3⟩; have t3 := t2.trans (b3.mono (by simp at z1; omega))))
   refine hK.out _ _ ?_ (fun hHeld => ?_)
   · (exact hS _ t3)
   clear hK K
   try simp only [Act.put, List.setIfInBounds_toArray, List.set_cons_zero, List.set_cons_succ])
  refine HT.tail (by kernel_rfl) ?_
  simp only [List.drop_succ_cons, List.drop_zero]
  obtain ⟨A9, m9, c9, rfl⟩ : ∃ A m c, v3 = .slice A m c := by obtain ⟨A, c, e⟩ := Owns.form o3; exact ⟨A, _, c, e⟩
  have bx3 := bx0.out.below (by omega) t3
  obtain ⟨d0, d1, d2, _, _, _⟩ := bx3.cells
  have f0 := bx3.frozen 0
  have f1 := bx3.frozen 1
  have f2 := bx3.frozen 2
  have bf := Lib.hid (((bx3.set0 (.map (some w0.heap.size))).set2 (.map (some w1.heap.size))).set1 (.slice A9 m9 c9))
  simp only [World.size_drew] at m1 z1
  have m3 := Lib.hid (m1.below (B := w1.heap.size) (by omega) (b2.trans (b3.mono (by omega))))
  have m4 := Lib.hid (m2.below (B := w2.heap.size) (by omega) b3)
  have hbw := Lib.hid (((hb0.trans (t3.mono (by omega))).setCell (p := ⟨w.heap.size, 0, none⟩) (Nat.le_refl _) (.map (some w0.heap.size))).setCell (p := ⟨w.heap.size, 2, none⟩) (Nat.le_refl _) (.map (some w1.heap.size)) |>.setCell (p := ⟨w.heap.size, 1, none⟩) (Nat.le_refl _) (.slice A9 m9 c9))
  rw [z1, hz0] at bf hbw m4
  rw [hz0] at m3
  have ho3 := Lib.hid o3
  replace bx3 := Lib.hid bx3
  replace hS := Lib.hid hS
  replace h0 := Lib.hid h0
  clear hHeld
  go_wp2_with fail
  go_ret
  have hw3 : ∀ i, (Value.slice A9 m9 c9).ownBlock = some i → w2.heap.size ≤ i := fun i e => (ho3.out.within e).1
  refine ⟨rfl, [w.heap.size, w.heap.size + 1, w.heap.size + 1 + 1] ++ (Value.slice A9 m9 c9).ownBlock.toList, ⟨w.heap.size + 1, w.heap.size + 1 + 1, .slice A9 m9 c9, rfl, ?_⟩, hbw.out, ?_⟩
  · have hs := hh.out
    exact
    { box := bf.out
      good := ((m3.out.setOther (by first | (simp; done) | (simp; omega)) _).setOther (by first | (simp; done) | (simp; omega)) _).setOther (by first | (simp; done) | (simp; omega)) _
      seen := ((m4.out.setOther (by first | (simp; done) | (simp; omega)) _).setOther (by first | (simp; done) | (simp; omega)) _).setOther (by first | (simp; done) | (simp; omega)) _
      own := (Owns.from ho3.out (Nat.zero_le _)).blockS fun i e => by
        have := hw3 i e
        exact (Go.Deep.blk_setCell_other _ _ _ _ (by first | (simp; done) | (simp; omega))).trans ((Go.Deep.blk_setCell_other _ _ _ _ (by first | (simp; done) | (simp; omega))).trans (Go.Deep.blk_setCell_other _ _ _ _ (by first | (simp; done) | (simp; omega))))
      ap := nodup_own (by omega) (by omega) (by omega) (fun e => by have := hw3 _ e; omega) (fun e => by have := hw3 _ e; omega) (fun e => by have := hw3 _ e; omega)
      ng := hs.ng, ns := hs.ns, nw := hs.nw, len := hs.len, cap := hs.cap, rf := hs.rf, rf9 := hs.rf9, rm9 := hs.rm9, rm := hs.rm }
  · intro i hi
    rcases List.mem_append.1 hi with hi | hi
    · simp at hi
      omega
    · have := hw3 i (by simpa using hi)
      omega
end Go.Proofs.Ytfkonpmnclknaaa
