/-
  slices.Insert of one element, at strings and at places.
-/
import Derived.Test.YtbfephekkfieaaaInsA
import Derived.Test.YtbfephekkfieaaaPlaceA
import Derived.Test.YtbfephekkfieaaaStrs
namespace Go.Proofs.Ytbfephekkfieaaa
open Go.RowKit
attribute [local go_sem ↓] Go.wp_at_zero Go.wp_at_succ

set_option maxHeartbeats 4000000 in
set_option maxRecDepth 100000 in
theorem insert_strs_end (base : Nat) (v : Value) (l : List ByteArray) (g vc : Nat) (x : ByteArray) (w : World) (h : strE.Own w base v l) (hl : l.length ≤ 1000000) (hx : strE.At w w.heap.size (some ⟨g, 0, none⟩) 1 [x]) (hbase : base ≤ w.heap.size) :
    Calls Try.prog 38 #[v, .int .i64 l.length, .slice (some ⟨g, 0, none⟩) 1 vc] w fun e w' => ∃ v', e = .returned v' ∧ strE.Own w' base v' (l ++ [x]) ∧ w.grownBy w' v.ownBlock ∧ (v'.ownBlock = v.ownBlock ∨ v'.ownBlock = some w.heap.size) := by
  obtain ⟨n, hn⟩ : ∃ n, n = l.length := ⟨_, rfl⟩
  rw [← hn] at hl ⊢
  have hnn : ((n : Int) == (n : Int)) = true := by simp
  rcases h.2 with ⟨rfl, h0⟩ | ⟨g0, cap, cur, rfl, hb, hh, hnc, hcm, hcs, htk⟩
  · obtain rfl : n = 0 := by omega
    replace hn := Lib.hid hn
    clear h0
    go_enter Try.func38, Try.ntmps38
    go_wp2_with (at_builtin; go_must (refine Elem.wpList_row strE rfl (.tmp 23) (.tmp 24) rfl base _ l rfl (some ⟨g, 0, none⟩) 1 _ [x] rfl h _ hx (by have := hn.out; omega) hbase ?_); intro v' w1 hown hg1 hat)
    go_ret
    exact ⟨v', rfl, hown, hg1, hat⟩
  · rw [← hn] at hnc htk h ⊢
    replace hn := Lib.hid hn
    clear hh hcs htk
    go_enter Try.func38, Try.ntmps38
    go_wp2_with (at_builtin; go_must (refine Elem.wpList_row strE rfl (.tmp 23) (.tmp 24) rfl base _ l rfl (some ⟨g, 0, none⟩) 1 _ [x] rfl h _ hx (by have := hn.out; omega) hbase ?_); intro v' w1 hown hg1 hat)
    all_goals go_ret
    all_goals exact ⟨v', rfl, hown, hg1, hat⟩

set_option maxHeartbeats 4000000 in
set_option maxRecDepth 100000 in
theorem insert_strs_shift (base g0 n cap : Nat) (cur : Array Value) (l : List ByteArray) (g vc tA : Nat) (vcur : Array Value) (x : ByteArray) (i : Nat) (w : World) (hln : l.length = n) (hi : i < n) (hl : n ≤ 1000000) (hroom : n + 1 ≤ cap) (hmax : cap ≤ maxLen) (hb : base ≤ g0) (hbase : base ≤ w.heap.size)
    (hh : w.heap[g0]? = some (.cells cur strE.T (0, 0))) (hcs : cur.size = cap * strE.k) (htk : cur.toList.take (n * strE.k) = l.flatMap strE.enc)
    (hg : w.heap[g]? = some (.cells vcur tA (0, 0))) (hx : vcur.toList = strE.enc x) (hne : g ≠ g0) :
    Calls Try.prog 38 #[.slice (some ⟨g0, 0, none⟩) n cap, .int .i64 i, .slice (some ⟨g, 0, none⟩) 1 vc] w fun e w' => ∃ v', e = .returned v' ∧ strE.Own w' base v' (insAt i x l) ∧ w.grownBy w' (some g0) ∧ (v'.ownBlock = some g0 ∨ v'.ownBlock = some w.heap.size) := by
  have u1 := Try.underlying26
  have hov : ∀ lb cb o, (callFunc 54 #[.slice (some ⟨g, 0, none⟩) 1 vc, .slice (some ⟨g0, o, none⟩) lb cb]).run Try.prog w = .ok (.value (.bool false)) w := fun lb cb o => by
    rw [run_callFunc_extern (P := Try.prog) Try.func54 (by kernel_rfl) (by kernel_rfl) (by kernel_rfl) (e := Extern.SlicesOverlaps.overlaps #[26, 26] #[4]) (by kernel_rfl),
      Lib.run_overlaps_apart w 26 4 9 Try.underlying26 1 (fun w => by go_simp) ⟨g, 0, none⟩ ⟨g0, o, none⟩ 1 vc lb cb hne tA strE.T vcur.size cur.size (by simp [World.shape?, hg]) (by simp [World.shape?, hh]) (by rw [hcs]; show cap * 1 ≠ 0; omega) (by simp [World.frozen?, hg]) (by simp [World.frozen?, hg])]
    rfl
  obtain ⟨hf1, hf2⟩ := ins_shift strE (x := x) (n := n) (i := i) hln (by omega) hroom hcs htk
  have hD := tailC_len strE (i := i) hln
  have hD1 := tailC_one strE (i := i) (l := l)
  have hsz : (Try.prog.info? 9).map (·.size) = some 1 := by kernel_rfl
  have hDat : Hid (∀ j u, (tailC strE i l)[j]? = some u → w.cell? ⟨g0, i + j, none⟩ = some u) := fun j u hj => by
    rw [show i = i * 1 by omega, cell_of_row w g0 _ cur _ _ hh]
    have h1 := tailC_at strE hj
    rw [← htk, List.getElem?_take] at h1
    split at h1
    · rw [Array.getElem?_toList] at h1; exact h1
    · cases h1
  have hv : Hid (∀ j u, (strE.enc x)[j]? = some u → w.cell? ⟨g, j, none⟩ = some u) := fun j u hj => by
    rw [cell_of_row w g _ vcur _ _ hg]
    rw [← hx, Array.getElem?_toList] at hj
    exact hj
  have hel : (strE.enc x).length = 1 := strE.len x
  have hcl : cur.toList.length = cap * 1 := by rw [Array.length_toList]; exact hcs
  have hfit := fit3 (k := 1) (i := i) (n := n) (by omega) hroom
  have hov1 : Hid ((over cur.toList (i * 1 + 1) (tailC strE i l)).length = cap * 1) := by
    unfold Hid
    rw [over_len, hcl]
    rw [hD, hcl]
    exact hfit
  have hh' : Hid (w.heap[g0]? = some (.cells cur.toList.toArray strE.T (0, 0))) := by unfold Hid; simpa using hh
  replace hg := Lib.hid hg
  replace hx := Lib.hid hx
  clear hh
  replace hcs := Lib.hid hcs
  replace htk := Lib.hid htk
  replace hf1 := Lib.hid hf1
  replace hf2 := Lib.hid hf2
  replace hD := Lib.hid hD
  replace hD1 := Lib.hid hD1
  replace hcl := Lib.hid hcl
  replace hfit := Lib.hid hfit
  replace hln := Lib.hid hln
  have hg1 : ¬ ((i : Int) = (n : Int)) := by omega
  have hg2 : ¬ ((cap : Int) < (n : Int) + 1) := by omega
  have hc63 : cap ≤ 9223372036854775807 := hmax
  have hin : i ≤ n := by omega
  have hb2 : ¬ (cap = i + 1) := by omega
  have hb4 : ¬ (cap = i) := by omega
  have hw1 : IntKind.i64.wrap ((i : Int) + 1) = (i : Int) + 1 := by rw [IntKind.wrap_i64]; omega
  have hb1 : (0 : Int) ≤ (i : Int) + 1 := by omega
  have htn : ((i : Int) + 1).toNat = i + 1 := by omega
  have hb3 : (i : Int) ≤ (n : Int) + 1 := by omega
  have mixed : Try.prog.follows .mixedOrders = true := by kernel_rfl
  go_enter Try.func38, Try.ntmps38
  go_wp2_with (simp only [hov])
  go_region_law_o (refine step_copy_over rfl (.tmp 73) (.tmp 76) 26 26 9 rfl 1 g0 (i + 1) (i * 1 + 1) (n + 1 - (i + 1)) (cap - (i + 1)) ⟨g0, i, none⟩ (n + 1 - i) (cap - i) (by simp [Act.eval, Act.put]) (by simp [Act.eval, Act.put]) cur.toList strE.T (tailC strE i l) Try.underlying26 hsz hh'.out (n - i) (by omega) (by simp only [Nat.min_def]; split <;> omega) hD.out (fun j u hj => by rw [Addr.add_lit]; exact hDat.out j u hj) (by rw [hD.out, hcl.out]; exact hfit.out) hD1.out ?_; intro w1 hh1 hgr1)
  go_wp2_with ((with_reducible refine sel_copy ?_); go_must (refine wpList_copy_over rfl (.tmp 80) (.tmp 81) 26 26 9 rfl 1 g0 i (i * 1) (n + 1 - i) (cap - i) ⟨g, 0, none⟩ 1 vc rfl rfl (over cur.toList (i * 1 + 1) (tailC strE i l)) strE.T (strE.enc x) Try.underlying26 hsz hh1.out 1 (by omega) (by simp only [Nat.min_def]; split <;> omega) (by rw [hel]) (fun j u hj => by rw [Addr.add_lit, Nat.zero_add]; exact hgr1.cell (hv.out j u hj) (by simpa using hne)) (by rw [hov1.out, hel]; have := hfit.out; omega) (strE.one x) ?_); intro w2 hh2 hgr2)
  go_ret
  exact ⟨_, rfl, ins_own strE hh2.out hln.out hin hroom hmax hb hf1.out hf2.out, grown_trans (grown_trans (grown_drew w _) hgr1) hgr2, .inl rfl⟩

set_option maxHeartbeats 4000000 in
set_option maxRecDepth 100000 in
theorem insert_strs_grow (base g0 n cap : Nat) (cur : Array Value) (l : List ByteArray) (g vc tA : Nat) (vcur : Array Value) (x : ByteArray) (i : Nat) (w : World) (hln : l.length = n) (hi : i < n) (hl : n ≤ 1000000) (hnc : n ≤ cap) (hroom : cap < n + 1) (hbase : base ≤ w.heap.size)
    (hh : w.heap[g0]? = some (.cells cur strE.T (0, 0))) (htk : cur.toList.take (n * strE.k) = l.flatMap strE.enc)
    (hg : w.heap[g]? = some (.cells vcur tA (0, 0))) (hx : vcur.toList = strE.enc x) :
    Calls Try.prog 38 #[.slice (some ⟨g0, 0, none⟩) n cap, .int .i64 i, .slice (some ⟨g, 0, none⟩) 1 vc] w fun e w' => ∃ v', e = .returned v' ∧ strE.Own w' base v' (insAt i x l) ∧ w.grownBy w' (some g0) ∧ (v'.ownBlock = some g0 ∨ v'.ownBlock = some w.heap.size) := by
  have u1 := Try.underlying26
  have hgl : g < w.heap.size := (Array.getElem?_eq_some_iff.1 hg).1
  have hg0l : g0 < w.heap.size := (Array.getElem?_eq_some_iff.1 hh).1
  obtain ⟨G, ROW, hG1, hG2, hRs, hRt, hrun⟩ := make_grow strE w 3 .i64 Try.underlying3 g0 n cap i cur l hh htk hln hi hnc hroom hl
  obtain ⟨hf1, hf2⟩ := ins_new strE (x := x) (n := n) (i := i) (cap := G) hln (by omega) hG1 hRs hRt
  obtain ⟨W0, hW0⟩ : ∃ W0, W0 = w.drew.alloc (.cells ROW strE.T) := ⟨_, rfl⟩
  rw [← hW0] at hrun
  have hgr0 : w.grownBy W0 (some g0) := by rw [hW0]; exact grown_alloc w _ _
  have hgr00 : w.grownBy W0 none := by rw [hW0]; exact grown_alloc w _ _
  have hh0 : Hid (W0.heap[w.heap.size]? = some (.cells ROW.toList.toArray strE.T (0, 0))) := by rw [hW0]; unfold Hid; exact heap_alloc_new w.drew _
  have hD := tailC_len strE (i := i) hln
  have hD1 := tailC_one strE (i := i) (l := l)
  have hsz : (Try.prog.info? 9).map (·.size) = some 1 := by kernel_rfl
  have hDat : Hid (∀ j u, (tailC strE i l)[j]? = some u → w.cell? ⟨g0, i + j, none⟩ = some u) := fun j u hj => by
    rw [show i = i * 1 by omega, cell_of_row w g0 _ cur _ _ hh]
    have h1 := tailC_at strE hj
    rw [← htk, List.getElem?_take] at h1
    split at h1
    · rw [Array.getElem?_toList] at h1; exact h1
    · cases h1
  have hv : Hid (∀ j u, (strE.enc x)[j]? = some u → w.cell? ⟨g, j, none⟩ = some u) := fun j u hj => by
    rw [cell_of_row w g _ vcur _ _ hg]
    rw [← hx, Array.getElem?_toList] at hj
    exact hj
  have hel : (strE.enc x).length = 1 := strE.len x
  have hcl : ROW.toList.length = G * 1 := by rw [Array.length_toList]; exact hRs
  have hfit := fit3 (k := 1) (i := i) (n := n) (by omega) hG1
  have hov1 : Hid ((over ROW.toList (i * 1) (strE.enc x)).length = G * 1) := by
    unfold Hid
    rw [over_len, hcl]
    rw [hel, hcl]
    omega
  replace hg := Lib.hid hg
  replace hx := Lib.hid hx
  replace hh := Lib.hid hh
  replace htk := Lib.hid htk
  replace hf1 := Lib.hid hf1
  replace hf2 := Lib.hid hf2
  replace hD := Lib.hid hD
  replace hD1 := Lib.hid hD1
  replace hcl := Lib.hid hcl
  replace hfit := Lib.hid hfit
  replace hln := Lib.hid hln
  replace hW0 := Lib.hid hW0
  replace hRs := Lib.hid hRs
  replace hRt := Lib.hid hRt
  replace hel := Lib.hid hel
  have hg1 : ¬ ((i : Int) = (n : Int)) := by omega
  have hg2 : (cap : Int) < (n : Int) + 1 := by omega
  have hc63 : G ≤ 9223372036854775807 := hG2
  have hin : i ≤ n := by omega
  have hb2 : ¬ (G = i + 1) := by omega
  have hb4 : ¬ (G = i) := by omega
  have hb5 : ¬ (cap = i) := by omega
  have hw1 : IntKind.i64.wrap ((i : Int) + 1) = (i : Int) + 1 := by rw [IntKind.wrap_i64]; omega
  have hb1 : (0 : Int) ≤ (i : Int) + 1 := by omega
  have htn : ((i : Int) + 1).toNat = i + 1 := by omega
  have hb3 : (i : Int) ≤ (n : Int) := by omega
  have mixed : Try.prog.follows .mixedOrders = true := by kernel_rfl
  go_enter Try.func38, Try.ntmps38
  go_wp2_with (first
    | (at_builtin; refine Lib.wpList_append_run _ rfl _ _ _ _ rfl _ _ rfl rfl _ _ (hrun _ _ (by omega)) ?_)
    | ((with_reducible refine sel_copy ?_); go_must (refine wpList_copy_over rfl (.tmp 43) (.tmp 44) 26 26 9 rfl 1 w.heap.size i (i * 1) (n + 1 - i) (G - i) ⟨g, 0, none⟩ 1 vc rfl rfl ROW.toList strE.T (strE.enc x) Try.underlying26 hsz hh0.out 1 (by omega) (by simp only [Nat.min_def]; split <;> omega) (by rw [hel.out]) (fun j u hj => by rw [Addr.add_lit, Nat.zero_add]; exact hgr00.cell (hv.out j u hj) (by simp)) (by rw [hcl.out, hel.out]; have := hfit.out; omega) (strE.one x) ?_); intro w1 hh1 hgr1))
  go_region_law_o (refine step_copy_over rfl (.tmp 50) (.tmp 53) 26 26 9 rfl 1 w.heap.size (i + 1) (i * 1 + 1) (n + 1 - (i + 1)) (G - (i + 1)) ⟨g0, i, none⟩ (n - i) (cap - i) (by simp [Act.eval, Act.put]) (by simp [Act.eval, Act.put]) (over ROW.toList (i * 1) (strE.enc x)) strE.T (tailC strE i l) Try.underlying26 hsz hh1.out (n - i) (by omega) (by simp only [Nat.min_def]; split <;> omega) hD.out (fun j u hj => by rw [Addr.add_lit]; exact hgr1.cell (hgr00.cell (hDat.out j u hj) (by simp)) (by simp; omega)) (by rw [hD.out, hov1.out]; exact hfit.out) hD1.out ?_; intro w2 hh2 hgr2)
  go_wp2
  go_ret
  exact ⟨_, rfl, ins_own strE hh2.out hln.out hin hG1 hG2 hbase hf1.out hf2.out, grown_fresh (grown_fresh hgr0 (Nat.le_refl _) hgr1) (Nat.le_refl _) (grown_trans (grown_drew w1 _) hgr2), .inr rfl⟩

theorem insert_strs (base : Nat) (v : Value) (l : List ByteArray) (g vc tA : Nat) (vcur : Array Value) (x : ByteArray) (i : Nat) (w : World) (h : strE.Own w base v l) (hi : i ≤ l.length) (hl : l.length ≤ 1000000) (hbase : base ≤ w.heap.size)
    (hg : w.heap[g]? = some (.cells vcur tA (0, 0))) (hx : vcur.toList = strE.enc x) (hne : v.ownBlock ≠ some g) :
    Calls Try.prog 38 #[v, .int .i64 i, .slice (some ⟨g, 0, none⟩) 1 vc] w fun e w' => ∃ v', e = .returned v' ∧ strE.Own w' base v' (insAt i x l) ∧ w.grownBy w' v.ownBlock ∧ (v'.ownBlock = v.ownBlock ∨ v'.ownBlock = some w.heap.size) := by
  by_cases he : i = l.length
  · subst he
    rw [insAt_end]
    have hgl : g < w.heap.size := (Array.getElem?_eq_some_iff.1 hg).1
    refine insert_strs_end base v l g vc x w h hl ⟨rfl, by omega, fun _ => ⟨g, 0, rfl, hgl, fun j y hy p u hp => ?_⟩⟩ hbase
    match j, hy with
    | 0, hy =>
      simp at hy
      subst hy
      rw [cell_of_row w g _ vcur _ _ hg, ← Array.getElem?_toList, hx]
      simpa using hp
    | j + 1, hy => simp at hy
  · rcases h.2 with ⟨rfl, h0⟩ | ⟨g0, cap, cur, rfl, hb, hh, hnc, hcm, hcs, htk⟩
    · omega
    · by_cases hroom : l.length + 1 ≤ cap
      · exact insert_strs_shift base g0 l.length cap cur l g vc tA vcur x i w rfl (by omega) hl hroom hcm hb hbase hh hcs htk hg hx (fun e => hne (by rw [e]; rfl))
      · exact insert_strs_grow base g0 l.length cap cur l g vc tA vcur x i w rfl (by omega) hl hnc (by omega) hbase hh htk hg hx

set_option maxHeartbeats 4000000 in
set_option maxRecDepth 100000 in
theorem insert_places_end (base : Nat) (v : Value) (l : List Place) (g vc : Nat) (x : Place) (w : World) (h : placeE.Own w base v l) (hl : l.length ≤ 1000000) (hx : placeE.At w w.heap.size (some ⟨g, 0, none⟩) 1 [x]) (hbase : base ≤ w.heap.size) :
    Calls Try.prog 39 #[v, .int .i64 l.length, .slice (some ⟨g, 0, none⟩) 1 vc] w fun e w' => ∃ v', e = .returned v' ∧ placeE.Own w' base v' (l ++ [x]) ∧ w.grownBy w' v.ownBlock ∧ (v'.ownBlock = v.ownBlock ∨ v'.ownBlock = some w.heap.size) := by
  obtain ⟨n, hn⟩ : ∃ n, n = l.length := ⟨_, rfl⟩
  rw [← hn] at hl ⊢
  have hnn : ((n : Int) == (n : Int)) = true := by simp
  rcases h.2 with ⟨rfl, h0⟩ | ⟨g0, cap, cur, rfl, hb, hh, hnc, hcm, hcs, htk⟩
  · obtain rfl : n = 0 := by omega
    replace hn := Lib.hid hn
    clear h0
    go_enter Try.func39, Try.ntmps39
    go_wp2_with (at_builtin; go_must (refine Elem.wpList_row placeE rfl (.tmp 23) (.tmp 24) rfl base _ l rfl (some ⟨g, 0, none⟩) 1 _ [x] rfl h _ hx (by have := hn.out; omega) hbase ?_); intro v' w1 hown hg1 hat)
    go_ret
    exact ⟨v', rfl, hown, hg1, hat⟩
  · rw [← hn] at hnc htk h ⊢
    replace hn := Lib.hid hn
    clear hh hcs htk
    go_enter Try.func39, Try.ntmps39
    go_wp2_with (at_builtin; go_must (refine Elem.wpList_row placeE rfl (.tmp 23) (.tmp 24) rfl base _ l rfl (some ⟨g, 0, none⟩) 1 _ [x] rfl h _ hx (by have := hn.out; omega) hbase ?_); intro v' w1 hown hg1 hat)
    all_goals go_ret
    all_goals exact ⟨v', rfl, hown, hg1, hat⟩

set_option maxHeartbeats 4000000 in
set_option maxRecDepth 100000 in
theorem insert_places_shift (base g0 n cap : Nat) (cur : Array Value) (l : List Place) (g vc tA : Nat) (vcur : Array Value) (x : Place) (i : Nat) (w : World) (hln : l.length = n) (hi : i < n) (hl : n ≤ 1000000) (hroom : n + 1 ≤ cap) (hmax : cap ≤ maxLen) (hb : base ≤ g0) (hbase : base ≤ w.heap.size)
    (hh : w.heap[g0]? = some (.cells cur placeE.T (0, 0))) (hcs : cur.size = cap * placeE.k) (htk : cur.toList.take (n * placeE.k) = l.flatMap placeE.enc)
    (hg : w.heap[g]? = some (.cells vcur tA (0, 0))) (hx : vcur.toList = placeE.enc x) (hne : g ≠ g0) :
    Calls Try.prog 39 #[.slice (some ⟨g0, 0, none⟩) n cap, .int .i64 i, .slice (some ⟨g, 0, none⟩) 1 vc] w fun e w' => ∃ v', e = .returned v' ∧ placeE.Own w' base v' (insAt i x l) ∧ w.grownBy w' (some g0) ∧ (v'.ownBlock = some g0 ∨ v'.ownBlock = some w.heap.size) := by
  have u1 := Try.underlying27
  have hov : ∀ lb cb o, (callFunc 56 #[.slice (some ⟨g, 0, none⟩) 1 vc, .slice (some ⟨g0, o, none⟩) lb cb]).run Try.prog w = .ok (.value (.bool false)) w := fun lb cb o => by
    rw [run_callFunc_extern (P := Try.prog) Try.func56 (by kernel_rfl) (by kernel_rfl) (by kernel_rfl) (e := Extern.SlicesOverlaps.overlaps #[27, 27] #[4]) (by kernel_rfl),
      Lib.run_overlaps_apart w 27 4 35 Try.underlying27 3 (fun w => by go_simp) ⟨g, 0, none⟩ ⟨g0, o, none⟩ 1 vc lb cb hne tA placeE.T vcur.size cur.size (by simp [World.shape?, hg]) (by simp [World.shape?, hh]) (by rw [hcs]; show cap * 3 ≠ 0; omega) (by simp [World.frozen?, hg]) (by simp [World.frozen?, hg])]
    rfl
  obtain ⟨hf1, hf2⟩ := ins_shift placeE (x := x) (n := n) (i := i) hln (by omega) hroom hcs htk
  have hD := tailC_len placeE (i := i) hln
  have hD1 := tailC_one placeE (i := i) (l := l)
  have hsz : (Try.prog.info? 35).map (·.size) = some 3 := by kernel_rfl
  have hDat : Hid (∀ j u, (tailC placeE i l)[j]? = some u → w.cell? ⟨g0, (i * 3) + j, none⟩ = some u) := fun j u hj => by
    rw [show (i * 3) = i * 3 by omega, cell_of_row w g0 _ cur _ _ hh]
    have h1 := tailC_at placeE hj
    rw [← htk, List.getElem?_take] at h1
    split at h1
    · rw [Array.getElem?_toList] at h1; exact h1
    · cases h1
  have hv : Hid (∀ j u, (placeE.enc x)[j]? = some u → w.cell? ⟨g, j, none⟩ = some u) := fun j u hj => by
    rw [cell_of_row w g _ vcur _ _ hg]
    rw [← hx, Array.getElem?_toList] at hj
    exact hj
  have hel : (placeE.enc x).length = 3 := placeE.len x
  have hcl : cur.toList.length = cap * 3 := by rw [Array.length_toList]; exact hcs
  have hfit := fit3 (k := 3) (i := i) (n := n) (by omega) hroom
  have hov1 : Hid ((over cur.toList (i * 3 + 3) (tailC placeE i l)).length = cap * 3) := by
    unfold Hid
    rw [over_len, hcl]
    rw [hD, hcl]
    exact hfit
  have hh' : Hid (w.heap[g0]? = some (.cells cur.toList.toArray placeE.T (0, 0))) := by unfold Hid; simpa using hh
  replace hg := Lib.hid hg
  replace hx := Lib.hid hx
  clear hh
  replace hcs := Lib.hid hcs
  replace htk := Lib.hid htk
  replace hf1 := Lib.hid hf1
  replace hf2 := Lib.hid hf2
  replace hD := Lib.hid hD
  replace hD1 := Lib.hid hD1
  replace hcl := Lib.hid hcl
  replace hfit := Lib.hid hfit
  replace hln := Lib.hid hln
  have hg1 : ¬ ((i : Int) = (n : Int)) := by omega
  have hg2 : ¬ ((cap : Int) < (n : Int) + 1) := by omega
  have hc63 : cap ≤ 9223372036854775807 := hmax
  have hin : i ≤ n := by omega
  have hb2 : ¬ (cap = i + 1) := by omega
  have hb4 : ¬ (cap = i) := by omega
  have hw1 : IntKind.i64.wrap ((i : Int) + 1) = (i : Int) + 1 := by rw [IntKind.wrap_i64]; omega
  have hb1 : (0 : Int) ≤ (i : Int) + 1 := by omega
  have htn : ((i : Int) + 1).toNat = i + 1 := by omega
  have hb3 : (i : Int) ≤ (n : Int) + 1 := by omega
  have mixed : Try.prog.follows .mixedOrders = true := by kernel_rfl
  go_enter Try.func39, Try.ntmps39
  go_wp2_with (simp only [hov])
  go_region_law_o (refine step_copy_over rfl (.tmp 73) (.tmp 76) 27 27 35 rfl 3 g0 ((i + 1) * 3) (i * 3 + 3) (n + 1 - (i + 1)) (cap - (i + 1)) ⟨g0, (i * 3), none⟩ (n + 1 - i) (cap - i) (by simp [Act.eval, Act.put]) (by simp [Act.eval, Act.put]) cur.toList placeE.T (tailC placeE i l) Try.underlying27 hsz hh'.out (n - i) (by omega) (by simp only [Nat.min_def]; split <;> omega) hD.out (fun j u hj => by rw [Addr.add_lit]; exact hDat.out j u hj) (by rw [hD.out, hcl.out]; exact hfit.out) hD1.out ?_; intro w1 hh1 hgr1)
  go_wp2_with ((with_reducible refine sel_copy ?_); go_must (refine wpList_copy_over rfl (.tmp 80) (.tmp 81) 27 27 35 rfl 3 g0 (i * 3) (i * 3) (n + 1 - i) (cap - i) ⟨g, 0, none⟩ 1 vc rfl rfl (over cur.toList (i * 3 + 3) (tailC placeE i l)) placeE.T (placeE.enc x) Try.underlying27 hsz hh1.out 1 (by omega) (by simp only [Nat.min_def]; split <;> omega) (by rw [hel]) (fun j u hj => by rw [Addr.add_lit, Nat.zero_add]; exact hgr1.cell (hv.out j u hj) (by simpa using hne)) (by rw [hov1.out, hel]; have := hfit.out; omega) (placeE.one x) ?_); intro w2 hh2 hgr2)
  go_ret
  exact ⟨_, rfl, ins_own placeE hh2.out hln.out hin hroom hmax hb hf1.out hf2.out, grown_trans (grown_trans (grown_drew w _) hgr1) hgr2, .inl rfl⟩

set_option maxHeartbeats 4000000 in
set_option maxRecDepth 100000 in
theorem insert_places_grow (base g0 n cap : Nat) (cur : Array Value) (l : List Place) (g vc tA : Nat) (vcur : Array Value) (x : Place) (i : Nat) (w : World) (hln : l.length = n) (hi : i < n) (hl : n ≤ 1000000) (hnc : n ≤ cap) (hroom : cap < n + 1) (hbase : base ≤ w.heap.size)
    (hh : w.heap[g0]? = some (.cells cur placeE.T (0, 0))) (htk : cur.toList.take (n * placeE.k) = l.flatMap placeE.enc)
    (hg : w.heap[g]? = some (.cells vcur tA (0, 0))) (hx : vcur.toList = placeE.enc x) :
    Calls Try.prog 39 #[.slice (some ⟨g0, 0, none⟩) n cap, .int .i64 i, .slice (some ⟨g, 0, none⟩) 1 vc] w fun e w' => ∃ v', e = .returned v' ∧ placeE.Own w' base v' (insAt i x l) ∧ w.grownBy w' (some g0) ∧ (v'.ownBlock = some g0 ∨ v'.ownBlock = some w.heap.size) := by
  have u1 := Try.underlying27
  have hgl : g < w.heap.size := (Array.getElem?_eq_some_iff.1 hg).1
  have hg0l : g0 < w.heap.size := (Array.getElem?_eq_some_iff.1 hh).1
  obtain ⟨G, ROW, hG1, hG2, hRs, hRt, hrun⟩ := make_grow placeE w 3 .i64 Try.underlying3 g0 n cap i cur l hh htk hln hi hnc hroom hl
  obtain ⟨hf1, hf2⟩ := ins_new placeE (x := x) (n := n) (i := i) (cap := G) hln (by omega) hG1 hRs hRt
  obtain ⟨W0, hW0⟩ : ∃ W0, W0 = w.drew.alloc (.cells ROW placeE.T) := ⟨_, rfl⟩
  rw [← hW0] at hrun
  have hgr0 : w.grownBy W0 (some g0) := by rw [hW0]; exact grown_alloc w _ _
  have hgr00 : w.grownBy W0 none := by rw [hW0]; exact grown_alloc w _ _
  have hh0 : Hid (W0.heap[w.heap.size]? = some (.cells ROW.toList.toArray placeE.T (0, 0))) := by rw [hW0]; unfold Hid; exact heap_alloc_new w.drew _
  have hD := tailC_len placeE (i := i) hln
  have hD1 := tailC_one placeE (i := i) (l := l)
  have hsz : (Try.prog.info? 35).map (·.size) = some 3 := by kernel_rfl
  have hDat : Hid (∀ j u, (tailC placeE i l)[j]? = some u → w.cell? ⟨g0, (i * 3) + j, none⟩ = some u) := fun j u hj => by
    rw [show (i * 3) = i * 3 by omega, cell_of_row w g0 _ cur _ _ hh]
    have h1 := tailC_at placeE hj
    rw [← htk, List.getElem?_take] at h1
    split at h1
    · rw [Array.getElem?_toList] at h1; exact h1
    · cases h1
  have hv : Hid (∀ j u, (placeE.enc x)[j]? = some u → w.cell? ⟨g, j, none⟩ = some u) := fun j u hj => by
    rw [cell_of_row w g _ vcur _ _ hg]
    rw [← hx, Array.getElem?_toList] at hj
    exact hj
  have hel : (placeE.enc x).length = 3 := placeE.len x
  have hcl : ROW.toList.length = G * 3 := by rw [Array.length_toList]; exact hRs
  have hfit := fit3 (k := 3) (i := i) (n := n) (by omega) hG1
  have hov1 : Hid ((over ROW.toList (i * 3) (placeE.enc x)).length = G * 3) := by
    unfold Hid
    rw [over_len, hcl]
    rw [hel, hcl]
    omega
  replace hg := Lib.hid hg
  replace hx := Lib.hid hx
  replace hh := Lib.hid hh
  replace htk := Lib.hid htk
  replace hf1 := Lib.hid hf1
  replace hf2 := Lib.hid hf2
  replace hD := Lib.hid hD
  replace hD1 := Lib.hid hD1
  replace hcl := Lib.hid hcl
  replace hfit := Lib.hid hfit
  replace hln := Lib.hid hln
  replace hW0 := Lib.hid hW0
  replace hRs := Lib.hid hRs
  replace hRt := Lib.hid hRt
  replace hel := Lib.hid hel
  have hg1 : ¬ ((i : Int) = (n : Int)) := by omega
  have hg2 : (cap : Int) < (n : Int) + 1 := by omega
  have hc63 : G ≤ 9223372036854775807 := hG2
  have hin : i ≤ n := by omega
  have hb2 : ¬ (G = i + 1) := by omega
  have hb4 : ¬ (G = i) := by omega
  have hb5 : ¬ (cap = i) := by omega
  have hw1 : IntKind.i64.wrap ((i : Int) + 1) = (i : Int) + 1 := by rw [IntKind.wrap_i64]; omega
  have hb1 : (0 : Int) ≤ (i : Int) + 1 := by omega
  have htn : ((i : Int) + 1).toNat = i + 1 := by omega
  have hb3 : (i : Int) ≤ (n : Int) := by omega
  have mixed : Try.prog.follows .mixedOrders = true := by kernel_rfl
  go_enter Try.func39, Try.ntmps39
  go_wp2_with (first
    | (at_builtin; refine Lib.wpList_append_run _ rfl _ _ _ _ rfl _ _ rfl rfl _ _ (hrun _ _ (by omega)) ?_)
    | ((with_reducible refine sel_copy ?_); go_must (refine wpList_copy_over rfl (.tmp 43) (.tmp 44) 27 27 35 rfl 3 w.heap.size (i * 3) (i * 3) (n + 1 - i) (G - i) ⟨g, 0, none⟩ 1 vc rfl rfl ROW.toList placeE.T (placeE.enc x) Try.underlying27 hsz hh0.out 1 (by omega) (by simp only [Nat.min_def]; split <;> omega) (by rw [hel.out]) (fun j u hj => by rw [Addr.add_lit, Nat.zero_add]; exact hgr00.cell (hv.out j u hj) (by simp)) (by rw [hcl.out, hel.out]; have := hfit.out; omega) (placeE.one x) ?_); intro w1 hh1 hgr1))
  go_region_law_o (refine step_copy_over rfl (.tmp 50) (.tmp 53) 27 27 35 rfl 3 w.heap.size ((i + 1) * 3) (i * 3 + 3) (n + 1 - (i + 1)) (G - (i + 1)) ⟨g0, (i * 3), none⟩ (n - i) (cap - i) (by simp [Act.eval, Act.put]) (by simp [Act.eval, Act.put]) (over ROW.toList (i * 3) (placeE.enc x)) placeE.T (tailC placeE i l) Try.underlying27 hsz hh1.out (n - i) (by omega) (by simp only [Nat.min_def]; split <;> omega) hD.out (fun j u hj => by rw [Addr.add_lit]; exact hgr1.cell (hgr00.cell (hDat.out j u hj) (by simp)) (by simp; omega)) (by rw [hD.out, hov1.out]; exact hfit.out) hD1.out ?_; intro w2 hh2 hgr2)
  go_wp2
  go_ret
  exact ⟨_, rfl, ins_own placeE hh2.out hln.out hin hG1 hG2 hbase hf1.out hf2.out, grown_fresh (grown_fresh hgr0 (Nat.le_refl _) hgr1) (Nat.le_refl _) (grown_trans (grown_drew w1 _) hgr2), .inr rfl⟩

theorem insert_places (base : Nat) (v : Value) (l : List Place) (g vc tA : Nat) (vcur : Array Value) (x : Place) (i : Nat) (w : World) (h : placeE.Own w base v l) (hi : i ≤ l.length) (hl : l.length ≤ 1000000) (hbase : base ≤ w.heap.size)
    (hg : w.heap[g]? = some (.cells vcur tA (0, 0))) (hx : vcur.toList = placeE.enc x) (hne : v.ownBlock ≠ some g) :
    Calls Try.prog 39 #[v, .int .i64 i, .slice (some ⟨g, 0, none⟩) 1 vc] w fun e w' => ∃ v', e = .returned v' ∧ placeE.Own w' base v' (insAt i x l) ∧ w.grownBy w' v.ownBlock ∧ (v'.ownBlock = v.ownBlock ∨ v'.ownBlock = some w.heap.size) := by
  by_cases he : i = l.length
  · subst he
    rw [insAt_end]
    have hgl : g < w.heap.size := (Array.getElem?_eq_some_iff.1 hg).1
    refine insert_places_end base v l g vc x w h hl ⟨rfl, by omega, fun _ => ⟨g, 0, rfl, hgl, fun j y hy p u hp => ?_⟩⟩ hbase
    match j, hy with
    | 0, hy =>
      simp at hy
      subst hy
      rw [cell_of_row w g _ vcur _ _ hg, ← Array.getElem?_toList, hx]
      simpa using hp
    | j + 1, hy => simp at hy
  · rcases h.2 with ⟨rfl, h0⟩ | ⟨g0, cap, cur, rfl, hb, hh, hnc, hcm, hcs, htk⟩
    · omega
    · by_cases hroom : l.length + 1 ≤ cap
      · exact insert_places_shift base g0 l.length cap cur l g vc tA vcur x i w rfl (by omega) hl hroom hcm hb hbase hh hcs htk hg hx (fun e => hne (by rw [e]; rfl))
      · exact insert_places_grow base g0 l.length cap cur l g vc tA vcur x i w rfl (by omega) hl hnc (by omega) hbase hh htk hg hx
end Go.Proofs.Ytbfephekkfieaaa
