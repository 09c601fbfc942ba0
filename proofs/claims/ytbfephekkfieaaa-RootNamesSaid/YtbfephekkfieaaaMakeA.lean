/-
  A state's bytes: the plain law, and the contract of root.Make.
-/
import Derived.Test.YtbfephekkfieaaaRootA
import Derived.Test.YtbfephekkfieaaaNum
import Derived.Test.YtbfephekkfieaaaBuild
import Derived.Test.YtbfephekkfieaaaTail
namespace Go.Proofs.Ytbfephekkfieaaa
open Go.RowKit
attribute [local go_sem ↓] Go.wp_at_zero Go.wp_at_succ

def snapB (s : Snap) : List UInt8 := be s.id.toNat 4 ++ be s.time.toNat 8 ++ bl s.root
def chunkB (c : ByteArray) (p : Place) : List UInt8 := bl c ++ bl p.pack ++ be p.at_.toNat 4 ++ be p.len.toNat 4
def zipB : List ByteArray → List Place → List UInt8
  | c :: cs, p :: ps => chunkB c p ++ zipB cs ps
  | _, _ => []
def headB (s : St) : List UInt8 := [115, 116, 97, 49] ++ be s.k.toNat 1 ++ be s.n.toNat 1 ++ be s.next.toNat 4 ++ be s.sn.length 1
def stB (s : St) : List UInt8 := headB s ++ s.sn.flatMap snapB ++ be s.cs.length 2 ++ zipB s.cs s.ps
def makeRes (s : St) : ByteArray × Int := if mayState s then (str (stB s), 0) else (⟨#[]⟩, 4)

theorem bl_append (a b : ByteArray) : bl (a ++ b) = bl a ++ bl b := by simp [bl]
theorem bl_str (l : List UInt8) : bl (str l) = l := by simp [bl, str]
theorem bl_len (a : ByteArray) : (bl a).length = a.size := by simp [bl]
theorem rising_one : ∀ {l : List Snap} {y : Int}, rising y l = true → ∀ s ∈ l, mayOne s = true
  | [], _, _ => by simp
  | s :: l, y, h => by
    simp [rising] at h
    intro t ht
    simp at ht
    rcases ht with rfl | ht
    · exact h.1.1
    · exact rising_one h.2 t ht
theorem chk_sizes : ∀ {cs : List ByteArray} {ps : List Place} {prev : Option ByteArray}, chk prev cs ps = true → ∀ c ∈ cs, c.size = 32
  | [], _, _, _ => by simp
  | c :: cs, [], _, h => by simp [chk] at h
  | c :: cs, p :: ps, prev, h => by
    simp [chk] at h
    intro d hd
    simp at hd
    rcases hd with rfl | hd
    · exact h.1.1.1
    · exact chk_sizes h.2 d hd
theorem flatMap_len {α : Type} {f : α → List UInt8} {c : Nat} : ∀ {l : List α}, (∀ x ∈ l, (f x).length = c) → (l.flatMap f).length = l.length * c
  | [], _ => by simp
  | x :: l, h => by
    rw [List.flatMap_cons, List.length_append, h x (by simp), flatMap_len (fun y hy => h y (by simp [hy])), List.length_cons, Nat.add_mul]
    omega

/-- What a state that may be is. -/
structure Good (s : St) : Prop where
  k : 1 ≤ s.k ∧ s.k ≤ s.n ∧ s.n ≤ 12
  next : 1 ≤ s.next ∧ s.next ≤ 2147483648
  snLen : s.sn.length ≤ 32
  sn : ∀ x ∈ s.sn, mayOne x = true
  last : ∀ x ∈ s.sn, x.id < s.next
  csLen : s.cs.length = s.ps.length ∧ s.cs.length ≤ 400
  cs : ∀ c ∈ s.cs, c.size = 32
  ps : ∀ p ∈ s.ps, mayPlace p = true
theorem mayState_good {s : St} (h : mayState s = true) : Good s := by
  simp [mayState, mayCode, mayL, mayIdx] at h
  obtain ⟨⟨⟨⟨⟨⟨⟨a1, a2⟩, a3⟩, b1, b2⟩, ⟨⟨c1, c2⟩, c3⟩, c4⟩, d1⟩, d2⟩, e⟩ := h
  exact ⟨⟨a1, a2, a3⟩, ⟨d1, d2⟩, b2, rising_one b1, fun x hx => by have := lastOf_ge b1 x hx; omega, ⟨c1, c2⟩, chk_sizes c3, chk_places c3 c1⟩

theorem mayOne_bounds {s : Snap} (h : mayOne s = true) : 1 ≤ s.id ∧ s.id ≤ 2147483647 ∧ 0 ≤ s.time ∧ s.time ≤ 1099511627776 ∧ s.root.size = 32 := by
  simp [mayOne] at h
  omega
theorem mayPlace_size {p : Place} (h : mayPlace p = true) : p.pack.size = 32 := by
  simp [mayPlace] at h
  omega
theorem snapB_len {s : Snap} (h : mayOne s = true) : (snapB s).length = 44 := by
  have := (mayOne_bounds h).2.2.2.2
  simp [snapB, be_len, this]
theorem chunkB_len {c : ByteArray} {p : Place} (h : c.size = 32) (h' : mayPlace p = true) : (chunkB c p).length = 72 := by
  have := mayPlace_size h'
  simp [chunkB, be_len, this, h]
theorem headB_len (s : St) : (headB s).length = 11 := by simp [headB, be_len]
theorem zipB_len : ∀ {cs : List ByteArray} {ps : List Place}, cs.length = ps.length → (∀ c ∈ cs, c.size = 32) → (∀ p ∈ ps, mayPlace p = true) → (zipB cs ps).length = cs.length * 72
  | [], [], _, _, _ => rfl
  | [], _ :: _, h, _, _ => by simp at h
  | _ :: _, [], h, _, _ => by simp at h
  | c :: cs, p :: ps, h, h1, h2 => by
    rw [zipB, List.length_append, chunkB_len (h1 c (by simp)) (h2 p (by simp)), zipB_len (by simpa using h) (fun x hx => h1 x (by simp [hx])) (fun x hx => h2 x (by simp [hx])), List.length_cons, Nat.add_mul]
    omega

theorem root_countI (n : Int) (m : Nat) (w : World) (hm : m = 1 ∨ m = 2 ∨ m = 4 ∨ m = 8) (h0 : 0 ≤ n) (hn : n ≤ 9223372036854775807) :
    Calls Try.prog 26 #[.int .i64 n, .int .i64 m] w fun e w' => e = .returned (.string (str (be n.toNat m))) ∧ Below w.heap.size w w' := by
  obtain ⟨k, rfl⟩ := Int.eq_ofNat_of_zero_le h0
  exact root_count k m w hm (by omega)
theorem root_numberI (n : Int) (m : Nat) (w : World) (hm : m = 1 ∨ m = 2 ∨ m = 4 ∨ m = 8) (h0 : 0 ≤ n) (hn : n ≤ 9223372036854775807) :
    Calls Try.prog 27 #[.int .i64 n, .int .i64 m] w fun e w' => e = .returned (.string (str (be n.toNat m))) ∧ Below w.heap.size w w' := by
  obtain ⟨k, rfl⟩ := Int.eq_ofNat_of_zero_le h0
  exact root_number k m w hm (by omega)

theorem str_size (x : List UInt8) : (str x).size = x.length := by simp [str]; rfl
theorem str_cat (l l' : List UInt8) : str l ++ str l' = str (l ++ l') := by
  apply ByteArray.ext
  simp [str, ByteArray.data_append]
theorem str_add {l l' r : List UInt8} (hr : r = l ++ l') (h : l.length + l'.length ≤ 100000) (w : World) : (Op.stringOp .add (str l) (str l')).run Try.prog w = .ok (.string (str r)) w := by
  have h' : ¬ ((9223372036854775807 : Int) < ((str l).size : Int) + ((str l').size : Int)) := by rw [str_size, str_size]; omega
  rw [hr, ← str_cat]
  simp [Op.stringOp, h']
theorem str_bl (a : ByteArray) : str (bl a) = a := rfl
theorem str_addb {l r : List UInt8} {a : ByteArray} (hr : r = l ++ bl a) (h : l.length + a.size ≤ 100000) (w : World) : (Op.stringOp .add (str l) a).run Try.prog w = .ok (.string (str r)) w := by
  have := str_add hr (by rw [bl_len]; exact h) w
  rwa [str_bl] at this
theorem str_bb {r : List UInt8} {a b : ByteArray} (hr : r = bl a ++ bl b) (h : a.size + b.size ≤ 100000) (w : World) : (Op.stringOp .add a b).run Try.prog w = .ok (.string (str r)) w := by
  have := str_addb (l := bl a) hr (by rw [bl_len]; exact h) w
  rwa [str_bl] at this
theorem zipB_take : ∀ {cs : List ByteArray} {ps : List Place} {j : Nat} {c : ByteArray} {p : Place}, cs[j]? = some c → ps[j]? = some p → zipB (cs.take (j + 1)) (ps.take (j + 1)) = zipB (cs.take j) (ps.take j) ++ chunkB c p
  | [], _, _, _, _, h, _ => by simp at h
  | _ :: _, [], _, _, _, _, h => by simp at h
  | a :: cs, q :: ps, 0, c, p, h, h' => by
    simp at h h'
    subst h h'
    simp [zipB]
  | a :: cs, q :: ps, j + 1, c, p, h, h' => by
    have := zipB_take (cs := cs) (ps := ps) (j := j) (by simpa using h) (by simpa using h')
    rw [List.take_succ_cons, List.take_succ_cons, zipB, this, List.take_succ_cons, List.take_succ_cons, zipB, List.append_assoc]
/-- What a call of count hands back, under a name of its own. -/
theorem count_as {n : Int} {m : Nat} {l : List UInt8} (hl : l = be n.toNat m) (hm : m = 1 ∨ m = 2 ∨ m = 4 ∨ m = 8) (h0 : 0 ≤ n) (hn : n ≤ 9223372036854775807) (w : World) :
    Calls Try.prog 26 #[.int .i64 n, .int .i64 m] w fun e w' => e = .returned (.string (str l)) ∧ Below w.heap.size w w' := hl ▸ root_countI n m w hm h0 hn
theorem number_as {n : Int} {m : Nat} {l : List UInt8} (hl : l = be n.toNat m) (hm : m = 1 ∨ m = 2 ∨ m = 4 ∨ m = 8) (h0 : 0 ≤ n) (hn : n ≤ 9223372036854775807) (w : World) :
    Calls Try.prog 27 #[.int .i64 n, .int .i64 m] w fun e w' => e = .returned (.string (str l)) ∧ Below w.heap.size w w' := hl ▸ root_numberI n m w hm h0 hn

set_option maxHeartbeats 4000000 in
set_option maxRecDepth 100000 in
theorem root_Make (v : Rws) (s : St) (w : World) (h : StAt w w.heap.size v s) :
    Calls Try.prog 8 #[v.val s] w fun e w' => e = .returned (.tuple #[.string (makeRes s).1, .int .i64 (makeRes s).2]) ∧ Below w.heap.size w w' := by
  have hM : Hid (∀ W : World, Below w.heap.size w W → Calls Try.prog 24 #[v.val s] W fun e w' => e = .returned (.bool (mayState s)) ∧ Below W.heap.size W w') := fun W hb => root_May v s W (h.to hb)
  by_cases hs : mayState s = true
  · have hg := mayState_good hs
    rw [hs] at hM
    have hres : Hid (makeRes s = (str (stB s), 0)) := by unfold Hid makeRes; rw [if_pos hs]
    obtain ⟨k, n, next, sn, cs, ps⟩ := s
    obtain ⟨A1, n1, c1, A2, n2, c2, A3, n3, c3⟩ := v
    obtain ⟨h1, h2, h3, hok⟩ := h
    obtain ⟨⟨gk1, gk2, gk3⟩, ⟨gn1, gn2⟩, gl, gs, -, ⟨gc1, gc2⟩, gcs, gps⟩ := hg
    dsimp only at h1 h2 h3 gk1 gk2 gk3 gn1 gn2 gl gs gc1 gc2 gcs gps
    have l1 := Lib.hid h1.1
    have l2 := Lib.hid h2.1
    have l3 := Lib.hid h3.1
    have hn1 : n1 ≤ 32 := by rw [← l1.out]; exact gl
    have hn2 : n2 ≤ 400 := by rw [← l2.out]; exact gc2
    replace gs := Lib.hid gs
    replace gcs := Lib.hid gcs
    replace gps := Lib.hid gps
    replace gc1 := Lib.hid gc1
    unfold Rws.val stv at hM ⊢
    go_enter Try.func8, Try.ntmps8
    go_wp2_with fail
    refine (hM.out _ (by repeat (first | exact Below.refl _ _ | assumption | refine Below.drew ?_ | refine below_drewN ?_ _ | refine Below.alloc ?_ (by first | omega | (simp; try omega)) _ | refine Below.setCell ?_ (by first | omega | (simp; try omega)) _ | (refine Below.trans ?_ (Below.mono (by assumption) (by first | omega | (simp; try omega))))))).mono ?_
    rintro e w1 ⟨rfl, hb1⟩
    have hz1 : w.heap.size + 1 ≤ w1.heap.size := by simpa using hb1.size
    have e1 : Below (w.heap.size + 1) (w.alloc (stBox k n next A1 n1 c1 A2 n2 c2 A3 n3 c3)) w1 := hb1.mono (by simp)
    have f1 : Below w.heap.size w w1 := (Below.alloc (Below.refl _ _) (by omega) _).trans (e1.mono (by omega))
    have hzl : w.heap.size < w1.heap.size := by omega
    obtain ⟨x0, x1, x2, x3, x4, x5⟩ := stBox_cells e1
    have hb0 := Bld.fresh w1
    replace hb0 := Lib.hid hb0
    go_wp2_with fail
    have q0 : Below w1.heap.size w1 (w1.alloc (.cells #[.pointer none, .slice none 0 0] 59)) := (Below.refl _ _).alloc (Nat.le_refl _) _
    have qz : (w1.alloc (.cells #[.pointer none, .slice none 0 0] 59)).heap.size = w1.heap.size + 1 := by simp
    generalize w1.alloc (.cells #[.pointer none, .slice none 0 0] 59) = W0 at hb0 q0 qz ⊢
    have e2 := e1.trans (q0.mono (by omega))
    have f2 := f1.trans (q0.mono (by omega))
    clear x0 x1 x2 x3 x4 x5
    obtain ⟨x0, x1, x2, x3, x4, x5⟩ := stBox_cells e2
    have hzl2 : w.heap.size < W0.heap.size := by omega
    obtain ⟨bk, hbk⟩ : ∃ l, l = be k.toNat 1 := ⟨_, rfl⟩
    obtain ⟨bn, hbn⟩ : ∃ l, l = be n.toNat 1 := ⟨_, rfl⟩
    obtain ⟨bx, hbx⟩ : ∃ l, l = be next.toNat 4 := ⟨_, rfl⟩
    obtain ⟨bs, hbs⟩ : ∃ l, l = be ((n1 : Int)).toNat 1 := ⟨_, rfl⟩
    obtain ⟨t0, ht0⟩ : ∃ l : List UInt8, l = [115, 116, 97, 49] := ⟨_, rfl⟩
    obtain ⟨t1, ht1⟩ : ∃ l, l = t0 ++ bk := ⟨_, rfl⟩
    obtain ⟨t2, ht2⟩ : ∃ l, l = t1 ++ bn := ⟨_, rfl⟩
    obtain ⟨t3, ht3⟩ : ∃ l, l = t2 ++ bx := ⟨_, rfl⟩
    obtain ⟨t4, ht4⟩ : ∃ l, l = t3 ++ bs := ⟨_, rfl⟩
    have z0 : t0.length = 4 := by rw [ht0]; rfl
    have z1 : t1.length = 5 := by rw [ht1, hbk, List.length_append, be_len]; omega
    have z2 : t2.length = 6 := by rw [ht2, hbn, List.length_append, be_len]; omega
    have z3 : t3.length = 10 := by rw [ht3, hbx, List.length_append, be_len]; omega
    have z4 : t4.length = 11 := by rw [ht4, hbs, List.length_append, be_len]; omega
    have a1 := str_add ht1 (by rw [hbk, be_len]; omega)
    have a2 := str_add ht2 (by rw [hbn, be_len]; omega)
    have a3 := str_add ht3 (by rw [hbx, be_len]; omega)
    have a4 := str_add ht4 (by rw [hbs, be_len]; omega)
    rw [ht0] at a1
    have a1' : ∀ w, (Op.stringOp .add ⟨#[115, 116, 97, 49]⟩ (str bk)).run Try.prog w = .ok (.string (str t1)) w := a1
    clear a1
    have k1 := Lib.hid (count_as hbk (by omega) (by omega) (by omega))
    have k2 := Lib.hid (count_as hbn (by omega) (by omega) (by omega))
    have k3 := Lib.hid (count_as hbx (by omega) (by omega) (by omega))
    have k4 := Lib.hid (count_as hbs (by omega) (by omega) (by omega))
    have hhd : Hid (t4 = headB ⟨k, n, next, sn, cs, ps⟩) := by
      unfold Hid headB
      rw [ht4, ht3, ht2, ht1, ht0, hbk, hbn, hbx, hbs, l1.out]
      rfl
    replace ht0 := Lib.hid ht0
    clear ht1 ht2 ht3 ht4 hbk hbn hbx hbs
    (refine region_ext_tail 19 (W0.heap.size) (by kernel_rfl) (by kernel_rfl) ?_
     simp only [List.take_succ_cons, List.take_zero, List.drop_succ_cons, List.drop_zero]
     repeat (go_big_quiet_step ((first | (go_at_call 26; refine Calls.ext (Nat.le_refl _) (k1.out _)) | (go_at_call 26; refine Calls.ext (Nat.le_refl _) (k2.out _)) | (go_at_call 26; refine Calls.ext (Nat.le_refl _) (k3.out _)) | (go_at_call 26; refine Calls.ext (Nat.le_refl _) (k4.out _)))))
     refine wpQuiet_nil ?_
     intro w2 hw'
     have hbw2 := Ext.of hw'
     clear hw'
     obtain ⟨hcw2, hfw2⟩ := bcell hbw2; (try simp only [World.size_drew, World.cell?_drew, World.frozen?_drew, World.heap_drewN, World.cell?_drewN, World.frozen?_drewN] at hcw2 hfw2); have hzw2 := hbw2.size; (try simp at hzw2); (try have hlw2 := (by omega : w.heap.size < w2.heap.size)); (try have hmw2 := (by omega : w.heap.size + 1 < w2.heap.size)); (try have hnw2 := (by omega : w.heap.size + 1 + 1 < w2.heap.size)))
    have f2' : Below w.heap.size w w2 := f2.trans (hbw2.mono (by omega))
    have g2 : Bld w1.heap.size w1.heap.size [] w2 := hb0.out.below hbw2
    have q2 : Below w1.heap.size w1 w2 := q0.trans (hbw2.mono (by omega))
    go_wp2_with fail
    refine (builder_WriteString w1.heap.size w1.heap.size [] (str t4) w2 g2 (by rw [str_size, z4]; decide) (by omega)).mono ?_
    rintro e w3 ⟨rfl, g3, hb3⟩
    have hz3 := hb3.size
    have q3 : Below w1.heap.size w1 w3 := q2.trans hb3
    have e3 := e1.trans (q3.mono (by omega))
    have f3 := f1.trans (q3.mono (by omega))
    have g3' : Bld w1.heap.size w1.heap.size t4 w3 := by simpa [bl_str] using g3
    clear x0 x1 x2 x3 x4 x5 g3
    replace g3' := Lib.hid g3'
    obtain ⟨x0, x1, x2, x3, x4, x5⟩ := stBox_cells e3
    go_wp2_with fail
    go_loopw [6, 36] (fun _ i wr => ∃ j : Nat, j ≤ n1 ∧ i = .int .i64 j ∧ Hid (Bld w1.heap.size w1.heap.size (t4 ++ (sn.take j).flatMap snapB) wr) ∧ Below w1.heap.size w1 wr ∧ w1.heap.size + 1 ≤ wr.heap.size) (fun _ i _ => n1 - (intOf i).toNat)
    case atStart => exact ⟨0, Nat.zero_le _, rfl, by simpa using g3', q3, by omega⟩
    case round =>
      obtain ⟨j, hj, rfl, gB, q4, hz4⟩ := hrel
      have f4 := f1.trans (q4.mono (by omega))
      by_cases hlt : j < n1
      · obtain ⟨b, off, s, rfl, hb, hx, r0, r1, r2⟩ := (h1.to f4).snap hlt
        have hone := gs.out s (List.mem_of_getElem? hx)
        obtain ⟨o1, o2, o3, o4, o5⟩ := mayOne_bounds hone
        have htk : Hid (t4 ++ (sn.take (j + 1)).flatMap snapB = (t4 ++ (sn.take j).flatMap snapB) ++ snapB s) := by
          unfold Hid
          rw [List.take_add_one, hx]
          simp
        replace hx := Lib.hid hx
        have hi1 : (j : Int) < (n1 : Int) := by omega
        obtain ⟨bi, hbi⟩ : ∃ l, l = be s.id.toNat 4 := ⟨_, rfl⟩
        obtain ⟨bt, hbt⟩ : ∃ l, l = be s.time.toNat 8 := ⟨_, rfl⟩
        obtain ⟨u1, hu1⟩ : ∃ l, l = bi ++ bt := ⟨_, rfl⟩
        obtain ⟨u2, hu2⟩ : ∃ l, l = u1 ++ bl s.root := ⟨_, rfl⟩
        have y1 : u1.length = 12 := by rw [hu1, hbi, hbt, List.length_append, be_len, be_len]
        have y2 : u2.length = 44 := by rw [hu2, List.length_append, bl_len]; omega
        have a5 := str_add hu1 (by rw [hbi, hbt, be_len, be_len]; omega)
        have a6 := str_addb hu2 (by omega)
        have k5 := Lib.hid (count_as hbi (by omega) (by omega) (by omega))
        have k6 := Lib.hid (number_as hbt (by omega) (by omega) (by omega))
        have hsn : Hid (snapB s = u2) := by unfold Hid snapB; rw [hu2, hu1, hbi, hbt]
        clear hu1 hu2 hbi hbt
        have hlen : (t4 ++ (sn.take j).flatMap snapB).length = 11 + j * 44 := by
          rw [List.length_append, z4, flatMap_len (c := 44) (fun x hx => snapB_len (gs.out x (List.mem_of_mem_take hx))), List.length_take, l1.out, Nat.min_eq_left hj]
        go_wp2_with fail
        have p0 : Below wr.heap.size wr (wr.alloc (.cells #[.int .i64 s.id, .int .i64 s.time, .string s.root] 33)) := (Below.refl _ _).alloc (Nat.le_refl _) _
        have pz : (wr.alloc (.cells #[.int .i64 s.id, .int .i64 s.time, .string s.root] 33)).heap.size = wr.heap.size + 1 := by simp
        have c0 : (wr.alloc (.cells #[.int .i64 s.id, .int .i64 s.time, .string s.root] 33)).cell? ⟨wr.heap.size, 0, none⟩ = some (.int .i64 s.id) := by go_simp
        have c1' : (wr.alloc (.cells #[.int .i64 s.id, .int .i64 s.time, .string s.root] 33)).cell? ⟨wr.heap.size, 1, none⟩ = some (.int .i64 s.time) := by go_simp
        have c2' : (wr.alloc (.cells #[.int .i64 s.id, .int .i64 s.time, .string s.root] 33)).cell? ⟨wr.heap.size, 2, none⟩ = some (.string s.root) := by go_simp
        generalize wr.alloc (.cells #[.int .i64 s.id, .int .i64 s.time, .string s.root] 33) = W5 at p0 pz c0 c1' c2' ⊢
        have pl : wr.heap.size < W5.heap.size := by omega
        (refine region_ext_tail 10 (W5.heap.size) (by kernel_rfl) (by kernel_rfl) ?_
         simp only [List.take_succ_cons, List.take_zero, List.drop_succ_cons, List.drop_zero]
         repeat (go_big_quiet_step ((first | (go_at_call 26; refine Calls.ext (Nat.le_refl _) (k5.out _)) | (go_at_call 27; refine Calls.ext (Nat.le_refl _) (k6.out _)))))
         refine wpQuiet_nil ?_
         intro w6 hw'
         have hbw6 := Ext.of hw'
         clear hw'
         obtain ⟨hcw6, hfw6⟩ := bcell hbw6; (try simp only [World.size_drew, World.cell?_drew, World.frozen?_drew, World.heap_drewN, World.cell?_drewN, World.frozen?_drewN] at hcw6 hfw6); have hzw6 := hbw6.size; (try simp at hzw6); (try have hlw6 := (by omega : w.heap.size < w6.heap.size)); (try have hmw6 := (by omega : w.heap.size + 1 < w6.heap.size)); (try have hnw6 := (by omega : w.heap.size + 1 + 1 < w6.heap.size)))
        have g6 := (gB.out.below p0).below hbw6
        go_wp2_with fail
        refine (builder_WriteString w1.heap.size w1.heap.size _ (str u2) w6 g6 (by rw [str_size, y2, hlen]; omega) (by omega)).mono ?_
        rintro e w7 ⟨rfl, g7, hb7⟩
        have hz7 := hb7.size
        have g7' : Hid (Bld w1.heap.size w1.heap.size (t4 ++ (sn.take (j + 1)).flatMap snapB) w7) := by
          unfold Hid
          rw [htk.out, hsn.out]
          simpa [bl_str] using g7
        clear g7 g6
        have q7 : Below w1.heap.size w1 w7 := ((q4.trans (p0.mono (by omega))).trans (hbw6.mono (by omega))).trans hb7
        go_wp2_with fail
        go_roundw
        case rel => exact ⟨j + 1, by omega, by go_num, g7', q7, by omega⟩
        case measure => simp [intOf]; omega
      · obtain rfl : j = n1 := by omega
        have gB' : Bld w1.heap.size w1.heap.size (t4 ++ sn.flatMap snapB) wr := by
          have := gB.out
          rwa [List.take_of_length_le (by rw [l1.out]; omega)] at this
        have e4 := e1.trans (q4.mono (by omega))
        clear x0 x1 x2 x3 x4 x5
        obtain ⟨x0, x1, x2, x3, x4, x5⟩ := stBox_cells e4
        obtain ⟨bc, hbc⟩ : ∃ l, l = be ((n2 : Int)).toNat 2 := ⟨_, rfl⟩
        have k7 := Lib.hid (count_as hbc (by omega) (by omega) (by omega))
        have zc : bc.length = 2 := by rw [hbc, be_len]
        have hlen : (t4 ++ sn.flatMap snapB).length = 11 + j * 44 := by
          rw [List.length_append, z4, flatMap_len (c := 44) (fun x hx => snapB_len (gs.out x hx)), l1.out]
        obtain ⟨d0, hd0⟩ : ∃ l, l = t4 ++ sn.flatMap snapB ++ bc := ⟨_, rfl⟩
        have zd : d0.length = 13 + j * 44 := by rw [hd0, List.length_append, hlen, zc]; omega
        have hfin : Hid (stB ⟨k, n, next, sn, cs, ps⟩ = d0 ++ zipB cs ps) := by
          unfold Hid stB
          rw [hd0, hhd.out, hbc, ← l2.out]
          rfl
        replace hbc := Lib.hid hbc
        replace gB' := Lib.hid gB'
        clear gB
        go_wp2_with fail
        refine (k7.out _).mono ?_
        rintro e w8 ⟨rfl, hb8⟩
        have hz8 := hb8.size
        have g8 := gB'.out.below hb8
        go_wp2_with fail
        refine (builder_WriteString w1.heap.size w1.heap.size _ (str bc) w8 g8 (by rw [str_size, zc, hlen]; omega) (by omega)).mono ?_
        rintro e w9 ⟨rfl, g9, hb9⟩
        have hz9 := hb9.size
        have g9' : Hid (Bld w1.heap.size w1.heap.size d0 w9) := by
          unfold Hid
          rw [hd0]
          simpa [bl_str] using g9
        clear g9 g8
        replace hd0 := Lib.hid hd0
        have q9 : Below w1.heap.size w1 w9 := (q4.trans (hb8.mono (by omega))).trans hb9
        have e9 := e1.trans (q9.mono (by omega))
        clear x0 x1 x2 x3 x4 x5
        obtain ⟨x0, x1, x2, x3, x4, x5⟩ := stBox_cells e9
        go_wp2_with fail
        go_loopw [7, 8, 9, 60] (fun _ _ _ i wr => ∃ j : Nat, j ≤ n2 ∧ i = .int .i64 j ∧ Hid (Bld w1.heap.size w1.heap.size (d0 ++ zipB (cs.take j) (ps.take j)) wr) ∧ Below w1.heap.size w1 wr ∧ w1.heap.size + 1 ≤ wr.heap.size) (fun _ _ _ i _ => n2 - (intOf i).toNat)
        case atStart => exact ⟨0, Nat.zero_le _, rfl, by simpa [zipB] using g9', q9, by omega⟩
        case round =>
          obtain ⟨i, hi, rfl, gC, q10, hz10⟩ := hrel
          have f10 := f1.trans (q10.mono (by omega))
          have e10 := e1.trans (q10.mono (by omega))
          clear x0 x1 x2 x3 x4 x5
          obtain ⟨x0, x1, x2, x3, x4, x5⟩ := stBox_cells e10
          have hlen : (d0 ++ zipB (cs.take i) (ps.take i)).length = 13 + j * 44 + i * 72 := by
            rw [List.length_append, zd, zipB_len (by rw [List.length_take, List.length_take, gc1.out]) (fun x hx => gcs.out x (List.mem_of_mem_take hx)) (fun x hx => gps.out x (List.mem_of_mem_take hx)), List.length_take, l2.out, Nat.min_eq_left hi]
          by_cases hlt : i < n2
          · obtain ⟨b, off, c, rfl, hb, hc, r0⟩ := (h2.to f10).str hlt
            obtain ⟨b', off', p, rfl, hb', hp, v0, v1, v2⟩ := (h3.to f10).place (i := i) (by have := l2.out; have := l3.out; have := gc1.out; omega)
            have hi3 : (i : Int) < (n3 : Int) := by have := l2.out; have := l3.out; have := gc1.out; omega
            have hi1 : (i : Int) < (n2 : Int) := by omega
            have hc32 := gcs.out c (List.mem_of_getElem? hc)
            have hpm := gps.out p (List.mem_of_getElem? hp)
            have hp32 := mayPlace_size hpm
            obtain ⟨o1, o2, o3, o4, o5⟩ := mayPlace_bounds hpm
            have htk : Hid (d0 ++ zipB (cs.take (i + 1)) (ps.take (i + 1)) = (d0 ++ zipB (cs.take i) (ps.take i)) ++ chunkB c p) := by
              unfold Hid
              rw [zipB_take hc hp, List.append_assoc]
            replace hc := Lib.hid hc
            replace hp := Lib.hid hp
            obtain ⟨ba, hba⟩ : ∃ l, l = be p.at_.toNat 4 := ⟨_, rfl⟩
            obtain ⟨bz, hbz⟩ : ∃ l, l = be p.len.toNat 4 := ⟨_, rfl⟩
            obtain ⟨u1, hu1⟩ : ∃ l, l = bl c ++ bl p.pack := ⟨_, rfl⟩
            obtain ⟨u2, hu2⟩ : ∃ l, l = u1 ++ ba := ⟨_, rfl⟩
            obtain ⟨u3, hu3⟩ : ∃ l, l = u2 ++ bz := ⟨_, rfl⟩
            have y1 : u1.length = 64 := by rw [hu1, List.length_append, bl_len, bl_len]; omega
            have y2 : u2.length = 68 := by rw [hu2, hba, List.length_append, be_len]; omega
            have y3 : u3.length = 72 := by rw [hu3, hbz, List.length_append, be_len]; omega
            have a7 := str_bb hu1 (by omega)
            have a8 := str_add hu2 (by rw [hba, be_len]; omega)
            have a9 := str_add hu3 (by rw [hbz, be_len]; omega)
            have k8 := Lib.hid (count_as hba (by omega) (by omega) (by omega))
            have k9 := Lib.hid (count_as hbz (by omega) (by omega) (by omega))
            have hch : Hid (chunkB c p = u3) := by unfold Hid chunkB; rw [hu3, hu2, hu1, hba, hbz]
            clear hu1 hu2 hu3 hba hbz
            go_wp2_with fail
            have p0 : Below wr.heap.size wr (wr.alloc (.cells #[.string p.pack, .int .i64 p.at_, .int .i64 p.len] 35)) := (Below.refl _ _).alloc (Nat.le_refl _) _
            have pz : (wr.alloc (.cells #[.string p.pack, .int .i64 p.at_, .int .i64 p.len] 35)).heap.size = wr.heap.size + 1 := by simp
            have c0 : (wr.alloc (.cells #[.string p.pack, .int .i64 p.at_, .int .i64 p.len] 35)).cell? ⟨wr.heap.size, 0, none⟩ = some (.string p.pack) := by go_simp
            have c1' : (wr.alloc (.cells #[.string p.pack, .int .i64 p.at_, .int .i64 p.len] 35)).cell? ⟨wr.heap.size, 1, none⟩ = some (.int .i64 p.at_) := by go_simp
            have c2' : (wr.alloc (.cells #[.string p.pack, .int .i64 p.at_, .int .i64 p.len] 35)).cell? ⟨wr.heap.size, 2, none⟩ = some (.int .i64 p.len) := by go_simp
            generalize wr.alloc (.cells #[.string p.pack, .int .i64 p.at_, .int .i64 p.len] 35) = W5 at p0 pz c0 c1' c2' ⊢
            have pl : wr.heap.size < W5.heap.size := by omega
            (refine region_ext_tail 12 (W5.heap.size) (by kernel_rfl) (by kernel_rfl) ?_
             simp only [List.take_succ_cons, List.take_zero, List.drop_succ_cons, List.drop_zero]
             repeat (go_big_quiet_step ((first | (go_at_call 26; refine Calls.ext (Nat.le_refl _) (k8.out _)) | (go_at_call 26; refine Calls.ext (Nat.le_refl _) (k9.out _)))))
             refine wpQuiet_nil ?_
             intro w6 hw'
             have hbw6 := Ext.of hw'
             clear hw'
             obtain ⟨hcw6, hfw6⟩ := bcell hbw6; (try simp only [World.size_drew, World.cell?_drew, World.frozen?_drew, World.heap_drewN, World.cell?_drewN, World.frozen?_drewN] at hcw6 hfw6); have hzw6 := hbw6.size; (try simp at hzw6); (try have hlw6 := (by omega : w.heap.size < w6.heap.size)); (try have hmw6 := (by omega : w.heap.size + 1 < w6.heap.size)); (try have hnw6 := (by omega : w.heap.size + 1 + 1 < w6.heap.size)))
            have g6 := (gC.out.below p0).below hbw6
            go_wp2_with fail
            refine (builder_WriteString w1.heap.size w1.heap.size _ (str u3) w6 g6 (by rw [str_size, y3, hlen]; omega) (by omega)).mono ?_
            rintro e w7 ⟨rfl, g7, hb7⟩
            have hz7 := hb7.size
            have g7' : Hid (Bld w1.heap.size w1.heap.size (d0 ++ zipB (cs.take (i + 1)) (ps.take (i + 1))) w7) := by
              unfold Hid
              rw [htk.out, hch.out]
              simpa [bl_str] using g7
            clear g7 g6
            have q7 : Below w1.heap.size w1 w7 := ((q10.trans (p0.mono (by omega))).trans (hbw6.mono (by omega))).trans hb7
            go_wp2_with fail
            go_roundw
            case rel => exact ⟨i + 1, by omega, by go_num, g7', q7, by omega⟩
            case measure => simp [intOf]; omega
          · obtain rfl : i = n2 := by omega
            have gE : Bld w1.heap.size w1.heap.size (stB ⟨k, n, next, sn, cs, ps⟩) wr := by
              have := gC.out
              rw [List.take_of_length_le (by rw [l2.out]; omega), List.take_of_length_le (by rw [← gc1.out, l2.out]; omega)] at this
              rw [hfin.out]
              exact this
            replace gE := Lib.hid gE
            clear gC
            go_wp2_with fail
            refine (builder_String w1.heap.size w1.heap.size _ wr gE.out (by omega)).mono ?_
            rintro e w11 ⟨rfl, hb11⟩
            go_wp2_with fail
            go_ret2
            exact ⟨by rw [hres.out]; rfl, f1.trans ((q10.trans hb11).mono (by omega))⟩
  · replace hs : mayState s = false := by simpa using hs
    rw [hs] at hM
    have hres : Hid (makeRes s = (⟨#[]⟩, 4)) := by unfold Hid makeRes; rw [if_neg (by rw [hs]; simp)]
    obtain ⟨k, n, next, sn, cs, ps⟩ := s
    obtain ⟨A1, n1, c1, A2, n2, c2, A3, n3, c3⟩ := v
    unfold Rws.val stv at hM ⊢
    go_enter Try.func8, Try.ntmps8
    go_wp2_with fail
    refine (hM.out _ (by repeat (first | exact Below.refl _ _ | assumption | refine Below.drew ?_ | refine below_drewN ?_ _ | refine Below.alloc ?_ (by first | omega | (simp; try omega)) _ | refine Below.setCell ?_ (by first | omega | (simp; try omega)) _ | (refine Below.trans ?_ (Below.mono (by assumption) (by first | omega | (simp; try omega))))))).mono ?_
    rintro e w1 ⟨rfl, hb1⟩
    go_wp2_with fail
    go_ret2
    exact ⟨by rw [hres.out]; rfl, (by repeat (first | exact Below.refl _ _ | assumption | refine Below.drew ?_ | refine below_drewN ?_ _ | refine Below.alloc ?_ (by first | omega | (simp; try omega)) _ | refine Below.setCell ?_ (by first | omega | (simp; try omega)) _ | (refine Below.trans ?_ (Below.mono (by assumption) (by first | omega | (simp; try omega))))))⟩
end Go.Proofs.Ytbfephekkfieaaa
