/-
  The example of chapter 24, as lists.
-/
import Derived.Test.YtmclniekloljcaaGreatDoorMarkL
import Derived.Test.YtmclniekloljcaaGreatDoorLetters
namespace Go.Proofs.YtmclniekloljcaaGreatDoor
open Go.RowKit

abbrev la : ByteArray := letterRoot 97
abbrev lb : ByteArray := letterRoot 98
abbrev lc : ByteArray := letterRoot 99
abbrev lp : ByteArray := letterRoot 112
abbrev lq : ByteArray := letterRoot 113
abbrev exC : List ByteArray := [la, lb, lc]
abbrev exP : List Place := [⟨lp, 10, 5⟩, ⟨lp, 15, 5⟩, ⟨lq, 8, 9⟩]
abbrev exS : St := ⟨0, 0, 0, [], exC, exP⟩
theorem sLt_ab : sLt la lb = true := sLt_iff.2 (by decide +kernel)
theorem sLt_bc : sLt lb lc = true := sLt_iff.2 (by decide +kernel)
theorem sLt_pq : sLt lp lq = true := sLt_iff.2 (by decide +kernel)
theorem may_ex : mayIdx exC exP = true := by
  have h1 : decide (la.size = 32) = true := by decide +kernel
  have h2 : decide (lb.size = 32) = true := by decide +kernel
  have h3 : decide (lc.size = 32) = true := by decide +kernel
  have h4 : ∀ p ∈ exP, mayPlace p = true := by decide +kernel
  have h5 : apartB exP = true := by decide +kernel
  have h6 : prevOk none la = true := rfl
  have h7 : prevOk (some la) lb = true := sLt_ab
  have h8 : prevOk (some lb) lc = true := sLt_bc
  have hc : chk none exC exP = true := by
    show (decide (la.size = 32) && prevOk none la && mayPlace ⟨lp, 10, 5⟩ && (decide (lb.size = 32) && prevOk (some la) lb && mayPlace ⟨lp, 15, 5⟩ && (decide (lc.size = 32) && prevOk (some lb) lc && mayPlace ⟨lq, 8, 9⟩ && true))) = true
    rw [h1, h2, h3, h6, h7, h8, h4 _ (by simp), h4 _ (by simp), h4 _ (by simp)]
    rfl
  unfold mayIdx
  rw [hc, h5]
  rfl
theorem of_p : inD exS lp = [la, lb] := by
  have h := ofL_of (pack := lp) may_ex (l' := [0, 1]) (by rw [show inPack exP lp exP.length = [0, 1] by decide +kernel]) (by decide +kernel)
  exact (ofRes_inD (s := exS) (D := [la, lb]) (P := _) (z := 0) may_ex (.inr ⟨may_ex, _, h, rfl, rfl, .inr ⟨by simp, rfl⟩⟩)).symm
theorem of_q : inD exS lq = [lc] := by
  have h := ofL_of (pack := lq) may_ex (l' := [2]) (by rw [show inPack exP lq exP.length = [2] by decide +kernel]) (by decide +kernel)
  exact (ofRes_inD (s := exS) (D := [lc]) (P := _) (z := 0) may_ex (.inr ⟨may_ex, _, h, rfl, rfl, .inr ⟨by simp, rfl⟩⟩)).symm
theorem packs_ex : packsL exS = [lp, lq] := by
  refine (setS_unique (m := [lp, lq]) (List.pairwise_cons.2 ⟨by intro x hx; simp at hx; subst hx; exact sLt_pq, List.pairwise_singleton _ _⟩) fun z => ?_).symm
  simp [exP]
theorem mark_ex : markRes exS [la] = (⟨[la], [lb, lc], [lp], [lq], [la]⟩, 0) := by
  have k1 : keptD exS [la] lp = [la] := by unfold keptD; rw [of_p]; decide +kernel
  have k2 : keptD exS [la] lq = [] := by unfold keptD; rw [of_q]; decide +kernel
  have s1 : staleP exS [la] lp = true := by unfold staleP; rw [k1, of_p]; rfl
  have s2 : staleP exS [la] lq = false := by unfold staleP; rw [k2]; rfl
  have d1 : deadP exS [la] lp = false := by unfold deadP; rw [k1]; rfl
  have d2 : deadP exS [la] lq = true := by unfold deadP; rw [k2]; rfl
  have e1 : exC.filter (fun c => decide (c ∈ [la])) = [la] := by decide +kernel
  have e2 : exC.filter (fun c => !decide (c ∈ [la])) = [lb, lc] := by decide +kernel
  have e3 : [lp, lq].filter (staleP exS [la]) = [lp] := by rw [List.filter_cons_of_pos s1, List.filter_cons_of_neg (by rw [s2]; simp)]; rfl
  have e4 : [lp, lq].filter (deadP exS [la]) = [lq] := by rw [List.filter_cons_of_neg (by rw [d1]; simp), List.filter_cons_of_pos d2]; rfl
  have e5 : movedL exS [la] [lp, lq] = [la] := by unfold movedL; rw [e3]; simp [k1]
  have e6 : setS [la] = [la] := (setS_unique (m := [la]) (List.pairwise_singleton _ _) fun z => Iff.rfl).symm
  unfold markRes
  rw [if_pos may_ex]
  unfold markSp
  rw [packs_ex, e3, e4, e5, e6, e1, e2]
end Go.Proofs.YtmclniekloljcaaGreatDoor
