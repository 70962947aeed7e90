/- Texts of this claim, joined: C17a, VXliveryref16, Cslot5, VOpn, Cslot6, Cfit, Pslot3, C17b, O17. -/
import Derived.Test.YtglekfgoadehbaaQCostBest5
import Derived.Test.YtglekfgoadehbaaQCostBest2
import Derived.Test.YtglekfgoadehbaaProg
import Derived.Test.YtglekfgoadehbaaQCostBest4
import Derived.Test.YtglekfgoadehbaaQCostBest3
import Derived.OpenShut
section
set_option linter.unusedSimpArgs false
set_option linter.unusedVariables false
/- liveryref17.Same; liverylaw17.vec, great, head. -/
namespace Go.Proofs.Ytglekfgoadehbaa.V
open Go Go.Proofs
set_option maxRecDepth 100000
set_option maxHeartbeats 4000000
theorem Same_17 (a b : List Int) (ha : a.length ≤ 1000000000) (t t' : Tok) : VPure Try.prog 29 [.sl (a.map num) t, .sl (b.map num) t'] (.bool (a == b)) := by
  refine VPure.of v_liveryref17_Same_ok (Nat.le_of_ble_eq_true rfl) (fun Z st => ?_)
  simp only [v_liveryref17_Same, ↓vD, vU, ↓vMd, vMu, VE.ev, VE.evs, retvs, tupOf, grab, vfill, vbsl, eqCells, eqCell, veqs, veqs1, vmnx, AV.isCell, AV.isUndef, Nat.reduceEqDiff, Nat.reduceAdd, Nat.reduceSub, Nat.reduceLeDiff, Nat.reduceLT, reduceIte, reduceCtorEq, Nat.reduceBEq, k_app, k_slc1]
  (repeat' (first | (simp (config := { maxDischargeDepth := 16 }) only [*, vX, Int.reduceLE, Int.reduceLT, Int.reduceGE, Int.reduceGT, Int.reduceBEq, Int.reduceBNe, Int.reduceAdd, Int.reduceSub, Int.reduceMul, Int.reduceNeg, ↓vD, vU, ↓vMd, vMu, VE.ev, VE.evs, retvs, tupOf, grab, vfill, vbsl, eqCells, eqCell, veqs, veqs1, vmnx, AV.isCell, AV.isUndef, Nat.reduceEqDiff, Nat.reduceAdd, Nat.reduceSub, Nat.reduceLeDiff, Nat.reduceLT, reduceIte, reduceCtorEq, Nat.reduceBEq]) | (simp (disch := first | assumption | omega | exact Seg.len _ | exact Vec.len _ | exact Leg.len _ | exact num_len _ | exact rowA_len _ | exact rowA_len | exact rowT_len _ | exact rowT_len | exact Seg.len | exact Vec.len | exact Leg.len | exact num_len | exact AV.slen _ _ | rfl) only [vP]) | ((with_reducible first | refine gsnd ?_ ?_ | refine csnd ?_ ?_ | refine gsd ?_ ?_ | refine csd ?_ ?_ | refine gsn ?_ ?_ | refine csn ?_ ?_ | refine gs ?_ ?_ | refine cs_ ?_ ?_) <;> intro _) | (with_reducible refine objQ_i (fun _ _ => ?_); (repeat (with_reducible refine imp_i (fun _ => ?_))))))
  · rename_i h
    have hne : a ≠ b := fun e => by subst e; simp at h
    simp [hne]
  · rename_i h
    have hl : a.length = b.length := by first | omega | (simp at h; omega)
    clear h
    refine loopf_of (len := a.length) (by simp only [asgL, dsts, List.cons_append, List.nil_append, List.append_nil]; rfl) (by simp only [noR, Bool.and_true, Bool.and_false]; rfl) (by omega) (fun k fr s => s = st ∧ fr.t 5 = .int .i64 k ∧ a.take k = b.take k) ?_ ?_ ?_
    · simp [↓vD, vU, ↓vMd, vMu, VE.ev, VE.evs, retvs, tupOf, grab, vfill, vbsl, eqCells, eqCell, veqs, veqs1, vmnx, AV.isCell, AV.isUndef, Nat.reduceEqDiff, Nat.reduceAdd, Nat.reduceSub, Nat.reduceLeDiff, Nat.reduceLT, reduceIte, reduceCtorEq, Nat.reduceBEq, k_app, k_slc1]
    · rintro k fr s hk hw hfr hd ⟨rfl, h13, hp⟩
      have hk' : k < b.length := by omega
      have HP := Hid.mk hp
      clear hp
      (repeat' (first | (simp (config := { maxDischargeDepth := 16 }) only [*, num, vX, Int.reduceLE, Int.reduceLT, Int.reduceGE, Int.reduceGT, Int.reduceBEq, Int.reduceBNe, Int.reduceAdd, Int.reduceSub, Int.reduceMul, Int.reduceNeg, ↓vD, vU, ↓vMd, vMu, VE.ev, VE.evs, retvs, tupOf, grab, vfill, vbsl, eqCells, eqCell, veqs, veqs1, vmnx, AV.isCell, AV.isUndef, Nat.reduceEqDiff, Nat.reduceAdd, Nat.reduceSub, Nat.reduceLeDiff, Nat.reduceLT, reduceIte, reduceCtorEq, Nat.reduceBEq]) | (simp (disch := first | assumption | omega | exact Seg.len _ | exact Vec.len _ | exact Leg.len _ | exact num_len _ | exact rowA_len _ | exact rowA_len | exact rowT_len _ | exact rowT_len | exact Seg.len | exact Vec.len | exact Leg.len | exact num_len | exact AV.slen _ _ | rfl) only [num, vP]) | ((with_reducible first | refine gsnd ?_ ?_ | refine csnd ?_ ?_ | refine gsd ?_ ?_ | refine csd ?_ ?_ | refine gsn ?_ ?_ | refine csn ?_ ?_ | refine gs ?_ ?_ | refine cs_ ?_ ?_) <;> intro _) | (with_reducible refine objQ_i (fun _ _ => ?_); (repeat (with_reducible refine imp_i (fun _ => ?_))))))
      · rename_i hc
        have hne : a ≠ b := fun e => by subst e; simp at hc
        simp [hne]
      · rename_i hc
        have he : a[k] = b[k] := by simpa using hc
        rw [List.take_add_one, List.take_add_one, HP.out, List.getElem?_eq_getElem hk, List.getElem?_eq_getElem hk', he]
    · rintro fr s hfr hd ⟨rfl, h13, hp⟩
      (repeat' (first | (simp (config := { maxDischargeDepth := 16 }) only [*, vX, Int.reduceLE, Int.reduceLT, Int.reduceGE, Int.reduceGT, Int.reduceBEq, Int.reduceBNe, Int.reduceAdd, Int.reduceSub, Int.reduceMul, Int.reduceNeg, ↓vD, vU, ↓vMd, vMu, VE.ev, VE.evs, retvs, tupOf, grab, vfill, vbsl, eqCells, eqCell, veqs, veqs1, vmnx, AV.isCell, AV.isUndef, Nat.reduceEqDiff, Nat.reduceAdd, Nat.reduceSub, Nat.reduceLeDiff, Nat.reduceLT, reduceIte, reduceCtorEq, Nat.reduceBEq]) | (simp (disch := first | assumption | omega | exact Seg.len _ | exact Vec.len _ | exact Leg.len _ | exact num_len _ | exact rowA_len _ | exact rowA_len | exact rowT_len _ | exact rowT_len | exact Seg.len | exact Vec.len | exact Leg.len | exact num_len | exact AV.slen _ _ | rfl) only [vP]) | ((with_reducible first | refine gsnd ?_ ?_ | refine csnd ?_ ?_ | refine gsd ?_ ?_ | refine csd ?_ ?_ | refine gsn ?_ ?_ | refine csn ?_ ?_ | refine gs ?_ ?_ | refine cs_ ?_ ?_) <;> intro _) | (with_reducible refine objQ_i (fun _ _ => ?_); (repeat (with_reducible refine imp_i (fun _ => ?_))))))
      rw [List.take_length, hl, List.take_length] at hp
      simp [hp]
theorem vec_17 (m c : Int) : VPure Try.prog 28 [.int .i64 m, .int .i64 c] (.agg [.int .i64 m, .int .i64 c]) := by
  refine VPure.of v_liverylaw17_vec_ok (Nat.le_of_ble_eq_true rfl) (fun Z st => ?_)
  simp only [v_liverylaw17_vec, ↓vD, vU, ↓vMd, vMu, VE.ev, VE.evs, retvs, tupOf, grab, vfill, vbsl, eqCells, eqCell, veqs, veqs1, vmnx, AV.isCell, AV.isUndef, Nat.reduceEqDiff, Nat.reduceAdd, Nat.reduceSub, Nat.reduceLeDiff, Nat.reduceLT, reduceIte, reduceCtorEq, Nat.reduceBEq, k_app, k_slc1]
  (repeat' (first | (simp (config := { maxDischargeDepth := 16 }) only [*, vX, Int.reduceLE, Int.reduceLT, Int.reduceGE, Int.reduceGT, Int.reduceBEq, Int.reduceBNe, Int.reduceAdd, Int.reduceSub, Int.reduceMul, Int.reduceNeg, ↓vD, vU, ↓vMd, vMu, VE.ev, VE.evs, retvs, tupOf, grab, vfill, vbsl, eqCells, eqCell, veqs, veqs1, vmnx, AV.isCell, AV.isUndef, Nat.reduceEqDiff, Nat.reduceAdd, Nat.reduceSub, Nat.reduceLeDiff, Nat.reduceLT, reduceIte, reduceCtorEq, Nat.reduceBEq]) | (simp (disch := first | assumption | omega | exact Seg.len _ | exact Vec.len _ | exact Leg.len _ | exact num_len _ | exact rowA_len _ | exact rowA_len | exact rowT_len _ | exact rowT_len | exact Seg.len | exact Vec.len | exact Leg.len | exact num_len | exact AV.slen _ _ | rfl) only [vP]) | ((with_reducible first | refine gsnd ?_ ?_ | refine csnd ?_ ?_ | refine gsd ?_ ?_ | refine csd ?_ ?_ | refine gsn ?_ ?_ | refine csn ?_ ?_ | refine gs ?_ ?_ | refine cs_ ?_ ?_) <;> intro _) | (with_reducible refine objQ_i (fun _ _ => ?_); (repeat (with_reducible refine imp_i (fun _ => ?_))))))
def sumG : List Leg → Int
  | [] => 0
  | x :: r => (if 0 < x.d ∧ x.d ≤ 4096 then x.d else 0) + sumG r
theorem sumG_take {l : List Leg} {k : Nat} (h : k < l.length) : sumG (l.take (k + 1)) = sumG (l.take k) + (if 0 < l[k].d ∧ l[k].d ≤ 4096 then l[k].d else 0) := by
  induction l generalizing k with
  | nil => simp at h
  | cons x r ih =>
    cases k with
    | zero => simp [sumG]
    | succ k => simp only [List.take_succ_cons, sumG, List.getElem_cons_succ, ih (by simpa using h)]; omega
theorem sumG_bd (l : List Leg) : 0 ≤ sumG l ∧ sumG l ≤ 4096 * l.length := by
  induction l with
  | nil => simp [sumG]
  | cons x r ih => simp only [sumG, List.length_cons]; split <;> omega
def preG (load f : List Seg) (w : Vec) (l : List Leg) : Bool := decide (60 < load.length) || decide (60 < f.length) || decide (20 < l.length) || (decide (w.m < w.c) && decide (150 < wr (w.c - w.m)) && decide (wr (w.c - w.m) ≤ 4096))
def great17 (load f : List Seg) (w : Vec) (l : List Leg) : Bool := preG load f w l || decide (9000 < sumG l)
theorem great_17 (load : List Seg) (h1 : (load.length : Int) ≤ 9223372036854775807) (f : List Seg) (hf : (f.length : Int) ≤ 9223372036854775807) (w : Vec) (l : List Leg) (hl : (l.length : Int) ≤ 9223372036854775807) (many : Int) (t t' t2 : Tok) :
    VPure Try.prog 20 [.agg [.sl (load.map Seg.a) t, .sl (f.map Seg.a) t', .int .i64 w.m, .int .i64 w.c, .sl (l.map Leg.a) t2, .int .i64 many]] (.bool (great17 load f w l)) := by
  refine VPure.of v_liverylaw17_great_ok (Nat.le_of_ble_eq_true rfl) (fun Z st => ?_)
  obtain ⟨d, hd⟩ : ∃ d, IntKind.i64.wrap (w.c - w.m) = d := ⟨_, rfl⟩
  obtain ⟨G, hG⟩ : ∃ G, preG load f w l = G := ⟨_, rfl⟩
  have HG : Hid (G = (decide (60 < load.length) || decide (60 < f.length) || decide (20 < l.length) || (decide (w.m < w.c) && decide (150 < d) && decide (d ≤ 4096)))) := ⟨by rw [← hG]; unfold preG wr; rw [hd]⟩
  unfold great17
  rw [hG]
  have HD := Hid.mk hd
  clear hG
  simp only [v_liverylaw17_great, ↓vD, vU, ↓vMd, vMu, VE.ev, VE.evs, retvs, tupOf, grab, vfill, vbsl, eqCells, eqCell, veqs, veqs1, vmnx, AV.isCell, AV.isUndef, Nat.reduceEqDiff, Nat.reduceAdd, Nat.reduceSub, Nat.reduceLeDiff, Nat.reduceLT, reduceIte, reduceCtorEq, Nat.reduceBEq, k_app, k_slc1]
  cases G with
  | true =>
    by_cases c1 : 60 < load.length
    · (repeat' (first | (simp (config := { maxDischargeDepth := 16 }) only [*, vX, Int.reduceLE, Int.reduceLT, Int.reduceGE, Int.reduceGT, Int.reduceBEq, Int.reduceBNe, Int.reduceAdd, Int.reduceSub, Int.reduceMul, Int.reduceNeg, ↓vD, vU, ↓vMd, vMu, VE.ev, VE.evs, retvs, tupOf, grab, vfill, vbsl, eqCells, eqCell, veqs, veqs1, vmnx, AV.isCell, AV.isUndef, Nat.reduceEqDiff, Nat.reduceAdd, Nat.reduceSub, Nat.reduceLeDiff, Nat.reduceLT, reduceIte, reduceCtorEq, Nat.reduceBEq]) | (simp (disch := first | assumption | omega | exact Seg.len _ | exact Vec.len _ | exact Leg.len _ | exact num_len _ | exact rowA_len _ | exact rowA_len | exact rowT_len _ | exact rowT_len | exact Seg.len | exact Vec.len | exact Leg.len | exact num_len | exact AV.slen _ _ | rfl) only [vP]) | ((with_reducible first | refine gsnd ?_ ?_ | refine csnd ?_ ?_ | refine gsd ?_ ?_ | refine csd ?_ ?_ | refine gsn ?_ ?_ | refine csn ?_ ?_ | refine gs ?_ ?_ | refine cs_ ?_ ?_) <;> intro _) | (with_reducible refine objQ_i (fun _ _ => ?_); (repeat (with_reducible refine imp_i (fun _ => ?_))))))
    by_cases c2 : 60 < f.length
    · (repeat' (first | (simp (config := { maxDischargeDepth := 16 }) only [*, vX, Int.reduceLE, Int.reduceLT, Int.reduceGE, Int.reduceGT, Int.reduceBEq, Int.reduceBNe, Int.reduceAdd, Int.reduceSub, Int.reduceMul, Int.reduceNeg, ↓vD, vU, ↓vMd, vMu, VE.ev, VE.evs, retvs, tupOf, grab, vfill, vbsl, eqCells, eqCell, veqs, veqs1, vmnx, AV.isCell, AV.isUndef, Nat.reduceEqDiff, Nat.reduceAdd, Nat.reduceSub, Nat.reduceLeDiff, Nat.reduceLT, reduceIte, reduceCtorEq, Nat.reduceBEq]) | (simp (disch := first | assumption | omega | exact Seg.len _ | exact Vec.len _ | exact Leg.len _ | exact num_len _ | exact rowA_len _ | exact rowA_len | exact rowT_len _ | exact rowT_len | exact Seg.len | exact Vec.len | exact Leg.len | exact num_len | exact AV.slen _ _ | rfl) only [vP]) | ((with_reducible first | refine gsnd ?_ ?_ | refine csnd ?_ ?_ | refine gsd ?_ ?_ | refine csd ?_ ?_ | refine gsn ?_ ?_ | refine csn ?_ ?_ | refine gs ?_ ?_ | refine cs_ ?_ ?_) <;> intro _) | (with_reducible refine objQ_i (fun _ _ => ?_); (repeat (with_reducible refine imp_i (fun _ => ?_))))))
    by_cases c3 : 20 < l.length
    · (repeat' (first | (simp (config := { maxDischargeDepth := 16 }) only [*, vX, Int.reduceLE, Int.reduceLT, Int.reduceGE, Int.reduceGT, Int.reduceBEq, Int.reduceBNe, Int.reduceAdd, Int.reduceSub, Int.reduceMul, Int.reduceNeg, ↓vD, vU, ↓vMd, vMu, VE.ev, VE.evs, retvs, tupOf, grab, vfill, vbsl, eqCells, eqCell, veqs, veqs1, vmnx, AV.isCell, AV.isUndef, Nat.reduceEqDiff, Nat.reduceAdd, Nat.reduceSub, Nat.reduceLeDiff, Nat.reduceLT, reduceIte, reduceCtorEq, Nat.reduceBEq]) | (simp (disch := first | assumption | omega | exact Seg.len _ | exact Vec.len _ | exact Leg.len _ | exact num_len _ | exact rowA_len _ | exact rowA_len | exact rowT_len _ | exact rowT_len | exact Seg.len | exact Vec.len | exact Leg.len | exact num_len | exact AV.slen _ _ | rfl) only [vP]) | ((with_reducible first | refine gsnd ?_ ?_ | refine csnd ?_ ?_ | refine gsd ?_ ?_ | refine csd ?_ ?_ | refine gsn ?_ ?_ | refine csn ?_ ?_ | refine gs ?_ ?_ | refine cs_ ?_ ?_) <;> intro _) | (with_reducible refine objQ_i (fun _ _ => ?_); (repeat (with_reducible refine imp_i (fun _ => ?_))))))
    have hq : w.m < w.c ∧ 150 < d ∧ d ≤ 4096 := by simpa [c1, c2, c3, and_assoc] using HG.out.symm
    obtain ⟨q1, q2, q3⟩ := hq
    (repeat' (first | (simp (config := { maxDischargeDepth := 16 }) only [*, vX, Int.reduceLE, Int.reduceLT, Int.reduceGE, Int.reduceGT, Int.reduceBEq, Int.reduceBNe, Int.reduceAdd, Int.reduceSub, Int.reduceMul, Int.reduceNeg, ↓vD, vU, ↓vMd, vMu, VE.ev, VE.evs, retvs, tupOf, grab, vfill, vbsl, eqCells, eqCell, veqs, veqs1, vmnx, AV.isCell, AV.isUndef, Nat.reduceEqDiff, Nat.reduceAdd, Nat.reduceSub, Nat.reduceLeDiff, Nat.reduceLT, reduceIte, reduceCtorEq, Nat.reduceBEq]) | (simp (disch := first | assumption | omega | exact Seg.len _ | exact Vec.len _ | exact Leg.len _ | exact num_len _ | exact rowA_len _ | exact rowA_len | exact rowT_len _ | exact rowT_len | exact Seg.len | exact Vec.len | exact Leg.len | exact num_len | exact AV.slen _ _ | rfl) only [vP]) | ((with_reducible first | refine gsnd ?_ ?_ | refine csnd ?_ ?_ | refine gsd ?_ ?_ | refine csd ?_ ?_ | refine gsn ?_ ?_ | refine csn ?_ ?_ | refine gs ?_ ?_ | refine cs_ ?_ ?_) <;> intro _) | (with_reducible refine objQ_i (fun _ _ => ?_); (repeat (with_reducible refine imp_i (fun _ => ?_))))))
  | false =>
    have hG := HG.out.symm
    clear HG
    simp only [Bool.or_eq_false_iff, decide_eq_false_iff_not, Bool.and_eq_false_iff] at hG
    obtain ⟨⟨⟨c1, c2⟩, c3⟩, c4⟩ := hG
    have hcase : (¬ w.m < w.c) ∨ (w.m < w.c ∧ ¬ 150 < d) ∨ (w.m < w.c ∧ 150 < d ∧ ¬ d ≤ 4096) := by
      by_cases q1 : w.m < w.c
      · by_cases q2 : 150 < d
        · rcases c4 with (h | h) | h
          · exact absurd q1 h
          · exact absurd q2 h
          · exact .inr (.inr ⟨q1, q2, h⟩)
        · exact .inr (.inl ⟨q1, q2⟩)
      · exact .inl q1
    have hl20 : l.length ≤ 20 := by omega
    clear c4
    rcases hcase with q1 | ⟨q1, q2⟩ | ⟨q1, q2, q3⟩
    all_goals
      (repeat' (first | (simp (config := { maxDischargeDepth := 16 }) only [*, vX, Int.reduceLE, Int.reduceLT, Int.reduceGE, Int.reduceGT, Int.reduceBEq, Int.reduceBNe, Int.reduceAdd, Int.reduceSub, Int.reduceMul, Int.reduceNeg, ↓vD, vU, ↓vMd, vMu, VE.ev, VE.evs, retvs, tupOf, grab, vfill, vbsl, eqCells, eqCell, veqs, veqs1, vmnx, AV.isCell, AV.isUndef, Nat.reduceEqDiff, Nat.reduceAdd, Nat.reduceSub, Nat.reduceLeDiff, Nat.reduceLT, reduceIte, reduceCtorEq, Nat.reduceBEq]) | (simp (disch := first | assumption | omega | exact Seg.len _ | exact Vec.len _ | exact Leg.len _ | exact num_len _ | exact rowA_len _ | exact rowA_len | exact rowT_len _ | exact rowT_len | exact Seg.len | exact Vec.len | exact Leg.len | exact num_len | exact AV.slen _ _ | rfl) only [vP]) | ((with_reducible first | refine gsnd ?_ ?_ | refine csnd ?_ ?_ | refine gsd ?_ ?_ | refine csd ?_ ?_ | refine gsn ?_ ?_ | refine csn ?_ ?_ | refine gs ?_ ?_ | refine cs_ ?_ ?_) <;> intro _) | (with_reducible refine objQ_i (fun _ _ => ?_); (repeat (with_reducible refine imp_i (fun _ => ?_))))))
      refine loopp_of (len := l.length) (by simp only [asgL, dsts, List.cons_append, List.nil_append, List.append_nil]; rfl) (by simp only [noR, Bool.and_true, Bool.and_false]; rfl) (by omega) (fun k fr => fr.t 4 = .int .i64 k ∧ fr.t 3 = .int .i64 (sumG (l.take k))) ?_ ?_ ?_
      · simp [↓vD, vU, ↓vMd, vMu, VE.ev, VE.evs, retvs, tupOf, grab, vfill, vbsl, eqCells, eqCell, veqs, veqs1, vmnx, AV.isCell, AV.isUndef, Nat.reduceEqDiff, Nat.reduceAdd, Nat.reduceSub, Nat.reduceLeDiff, Nat.reduceLT, reduceIte, reduceCtorEq, Nat.reduceBEq, k_app, k_slc1, sumG]
      · rintro k fr hk hwk hfr hd' ⟨h4, h3⟩
        have hs1 := sumG_take hk
        have hs2 := sumG_bd (l.take k)
        rw [List.length_take] at hs2
        obtain ⟨s, hs⟩ : ∃ s, sumG (l.take k) = s := ⟨_, rfl⟩
        obtain ⟨s', hs'⟩ : ∃ s, sumG (l.take (k + 1)) = s := ⟨_, rfl⟩
        obtain ⟨x, hx⟩ : ∃ x, l[k] = x := ⟨_, rfl⟩
        rw [hs, hs', hx] at hs1
        rw [hs] at h3 hs2
        rw [hs']
        have HS := Hid.mk hs1
        clear hs hs' hs1
        by_cases e1 : 0 < x.d
        · by_cases e2 : x.d ≤ 4096
          · have hwx : IntKind.i64.wrap (s + x.d) = s + x.d := wrap_i64 _ (by omega) (by omega)
            obtain rfl : s' = s + x.d := by rw [HS.out, if_pos ⟨e1, e2⟩]
            clear HS
            (repeat' (first | (simp (config := { maxDischargeDepth := 16 }) only [*, Leg.a, vX, Int.reduceLE, Int.reduceLT, Int.reduceGE, Int.reduceGT, Int.reduceBEq, Int.reduceBNe, Int.reduceAdd, Int.reduceSub, Int.reduceMul, Int.reduceNeg, ↓vD, vU, ↓vMd, vMu, VE.ev, VE.evs, retvs, tupOf, grab, vfill, vbsl, eqCells, eqCell, veqs, veqs1, vmnx, AV.isCell, AV.isUndef, Nat.reduceEqDiff, Nat.reduceAdd, Nat.reduceSub, Nat.reduceLeDiff, Nat.reduceLT, reduceIte, reduceCtorEq, Nat.reduceBEq]) | (simp (disch := first | assumption | omega | exact Seg.len _ | exact Vec.len _ | exact Leg.len _ | exact num_len _ | exact rowA_len _ | exact rowA_len | exact rowT_len _ | exact rowT_len | exact Seg.len | exact Vec.len | exact Leg.len | exact num_len | exact AV.slen _ _ | rfl) only [Leg.a, vP]) | ((with_reducible first | refine gsnd ?_ ?_ | refine csnd ?_ ?_ | refine gsd ?_ ?_ | refine csd ?_ ?_ | refine gsn ?_ ?_ | refine csn ?_ ?_ | refine gs ?_ ?_ | refine cs_ ?_ ?_) <;> intro _) | (with_reducible refine objQ_i (fun _ _ => ?_); (repeat (with_reducible refine imp_i (fun _ => ?_))))))
          · obtain rfl : s' = s := by rw [HS.out, if_neg (by omega)]; omega
            clear HS
            (repeat' (first | (simp (config := { maxDischargeDepth := 16 }) only [*, Leg.a, vX, Int.reduceLE, Int.reduceLT, Int.reduceGE, Int.reduceGT, Int.reduceBEq, Int.reduceBNe, Int.reduceAdd, Int.reduceSub, Int.reduceMul, Int.reduceNeg, ↓vD, vU, ↓vMd, vMu, VE.ev, VE.evs, retvs, tupOf, grab, vfill, vbsl, eqCells, eqCell, veqs, veqs1, vmnx, AV.isCell, AV.isUndef, Nat.reduceEqDiff, Nat.reduceAdd, Nat.reduceSub, Nat.reduceLeDiff, Nat.reduceLT, reduceIte, reduceCtorEq, Nat.reduceBEq]) | (simp (disch := first | assumption | omega | exact Seg.len _ | exact Vec.len _ | exact Leg.len _ | exact num_len _ | exact rowA_len _ | exact rowA_len | exact rowT_len _ | exact rowT_len | exact Seg.len | exact Vec.len | exact Leg.len | exact num_len | exact AV.slen _ _ | rfl) only [Leg.a, vP]) | ((with_reducible first | refine gsnd ?_ ?_ | refine csnd ?_ ?_ | refine gsd ?_ ?_ | refine csd ?_ ?_ | refine gsn ?_ ?_ | refine csn ?_ ?_ | refine gs ?_ ?_ | refine cs_ ?_ ?_) <;> intro _) | (with_reducible refine objQ_i (fun _ _ => ?_); (repeat (with_reducible refine imp_i (fun _ => ?_))))))
        · obtain rfl : s' = s := by rw [HS.out, if_neg (by omega)]; omega
          clear HS
          (repeat' (first | (simp (config := { maxDischargeDepth := 16 }) only [*, Leg.a, vX, Int.reduceLE, Int.reduceLT, Int.reduceGE, Int.reduceGT, Int.reduceBEq, Int.reduceBNe, Int.reduceAdd, Int.reduceSub, Int.reduceMul, Int.reduceNeg, ↓vD, vU, ↓vMd, vMu, VE.ev, VE.evs, retvs, tupOf, grab, vfill, vbsl, eqCells, eqCell, veqs, veqs1, vmnx, AV.isCell, AV.isUndef, Nat.reduceEqDiff, Nat.reduceAdd, Nat.reduceSub, Nat.reduceLeDiff, Nat.reduceLT, reduceIte, reduceCtorEq, Nat.reduceBEq]) | (simp (disch := first | assumption | omega | exact Seg.len _ | exact Vec.len _ | exact Leg.len _ | exact num_len _ | exact rowA_len _ | exact rowA_len | exact rowT_len _ | exact rowT_len | exact Seg.len | exact Vec.len | exact Leg.len | exact num_len | exact AV.slen _ _ | rfl) only [Leg.a, vP]) | ((with_reducible first | refine gsnd ?_ ?_ | refine csnd ?_ ?_ | refine gsd ?_ ?_ | refine csd ?_ ?_ | refine gsn ?_ ?_ | refine csn ?_ ?_ | refine gs ?_ ?_ | refine cs_ ?_ ?_) <;> intro _) | (with_reducible refine objQ_i (fun _ _ => ?_); (repeat (with_reducible refine imp_i (fun _ => ?_))))))
      · rintro fr hfr hd' ⟨h4, h3⟩
        rw [List.take_length] at h3
        (repeat' (first | (simp (config := { maxDischargeDepth := 16 }) only [*, vX, Int.reduceLE, Int.reduceLT, Int.reduceGE, Int.reduceGT, Int.reduceBEq, Int.reduceBNe, Int.reduceAdd, Int.reduceSub, Int.reduceMul, Int.reduceNeg, ↓vD, vU, ↓vMd, vMu, VE.ev, VE.evs, retvs, tupOf, grab, vfill, vbsl, eqCells, eqCell, veqs, veqs1, vmnx, AV.isCell, AV.isUndef, Nat.reduceEqDiff, Nat.reduceAdd, Nat.reduceSub, Nat.reduceLeDiff, Nat.reduceLT, reduceIte, reduceCtorEq, Nat.reduceBEq]) | (simp (disch := first | assumption | omega | exact Seg.len _ | exact Vec.len _ | exact Leg.len _ | exact num_len _ | exact rowA_len _ | exact rowA_len | exact rowT_len _ | exact rowT_len | exact Seg.len | exact Vec.len | exact Leg.len | exact num_len | exact AV.slen _ _ | rfl) only [vP]) | ((with_reducible first | refine gsnd ?_ ?_ | refine csnd ?_ ?_ | refine gsd ?_ ?_ | refine csd ?_ ?_ | refine gsn ?_ ?_ | refine csn ?_ ?_ | refine gs ?_ ?_ | refine cs_ ?_ ?_) <;> intro _) | (with_reducible refine objQ_i (fun _ _ => ?_); (repeat (with_reducible refine imp_i (fun _ => ?_))))))
        rw [Bool.false_or]
def loadH : List Seg := [⟨0, ⟨3, 1⟩⟩, ⟨8, ⟨1, 0⟩⟩, ⟨12, ⟨4, 4⟩⟩, ⟨20, ⟨0, 0⟩⟩]
def fH17 : List Seg := [⟨0, ⟨5, 5⟩⟩, ⟨30, ⟨0, 0⟩⟩]
def lH17 : List Leg := [⟨4, ⟨1, 1⟩⟩]
theorem c1H : costE loadH 0 lH17 = (16, 0) := by decide +kernel
theorem c2H : costE loadH 6 lH17 = (10, 0) := by decide +kernel
theorem c3H : cheapF loadH fH17 ⟨0, 30⟩ lH17 = (20, 0) ∧ begE loadH fH17 ⟨0, 30⟩ lH17 = 0 := by decide +kernel
theorem c4H : cheapF loadH fH17 ⟨0, 18⟩ lH17 = (8, 4) ∧ begE loadH fH17 ⟨0, 18⟩ lH17 = 0 := by decide +kernel
theorem c5H : bestF loadH fH17 ⟨0, 18⟩ lH17 3 = 0 ∧ (bestL (costP loadH (lengthF lH17).1) (allT (beginsF fH17 ⟨0, 18⟩ lH17).1)).take 3 = [8, 7, 6] := by decide +kernel
theorem c6H : bestF loadH fH17 ⟨0, 18⟩ lH17 65 = 2 := by decide +kernel
theorem c7H : costE loadH 0 [] = (0, 2) := by decide +kernel
theorem c8H : cheapF loadH [] ⟨0, 18⟩ lH17 = (0, 0) ∧ begE loadH [] ⟨0, 18⟩ lH17 = 210 := by decide +kernel
theorem Cost_v (load : List Seg) (hl : load.length ≤ 1000000) (t : Int) (l : List Leg) (hn : l.length ≤ 1000000000) (tk tk' : Tok) : VPure Try.prog 25 [.sl (load.map Seg.a) tk, .int .i64 t, .sl (l.map Leg.a) tk'] (.tup [.int .i64 (costE load t l).1, .int .i64 (costE load t l).2]) := fun _ _ => Cost_c load hl t l hn tk tk'
theorem Cheapest_v (load : List Seg) (hl : load.length ≤ 1000000) (f : List Seg) (hf : f.length ≤ 1000000) (w : Vec) (h1 : -9223372036854775808 ≤ w.m) (h2 : w.c ≤ 9223372036854775807) (l : List Leg) (hn : l.length ≤ 1000000000) (tk tk' tk2 : Tok) :
    VPure Try.prog 24 [.sl (load.map Seg.a) tk, .sl (f.map Seg.a) tk', .agg [.int .i64 w.m, .int .i64 w.c], .sl (l.map Leg.a) tk2] (.tup [.int .i64 (cheapF load f w l).1, .int .i64 (cheapF load f w l).2, .int .i64 (begE load f w l)]) := fun _ _ => Cheapest_c load hl f hf w h1 h2 l hn tk tk' tk2
theorem head_17 : VPure Try.prog 21 [] (.bool true) := by
  have a1 := Cost_v loadH (by simp [loadH]) 0 lH17 (by simp [lH17]) .full .full
  have a2 := Cost_v loadH (by simp [loadH]) 6 lH17 (by simp [lH17]) .full .full
  have a3 := Cheapest_v loadH (by simp [loadH]) fH17 (by simp [fH17]) ⟨0, 30⟩ (by simp) (by simp) lH17 (by simp [lH17]) .full .full .full
  have a4 := Cheapest_v loadH (by simp [loadH]) fH17 (by simp [fH17]) ⟨0, 18⟩ (by simp) (by simp) lH17 (by simp [lH17]) .full .full .full
  have a5 := Best_v loadH (by simp [loadH]) fH17 (by simp [fH17]) ⟨0, 18⟩ (by simp) (by simp) lH17 (by simp [lH17]) 3 .full .full .full
  have a6 := Best_v loadH (by simp [loadH]) fH17 (by simp [fH17]) ⟨0, 18⟩ (by simp) (by simp) lH17 (by simp [lH17]) 65 .full .full .full
  have a7 := Cost_v loadH (by simp [loadH]) 0 [] (by simp) .full .full
  have a8 := Cheapest_v loadH (by simp [loadH]) [] (by simp) ⟨0, 18⟩ (by simp) (by simp) lH17 (by simp [lH17]) .full .full .full
  have s1 := Same_17 [8, 7, 6] [8, 7, 6] (by simp) .no .full
  simp only [beq_self_eq_true] at s1
  rw [c1H] at a1
  rw [c2H] at a2
  rw [c3H.1, c3H.2] at a3
  rw [c4H.1, c4H.2] at a4
  unfold bestA at a5 a6
  rw [show (3 : Int).toNat = 3 from rfl, c5H.1, c5H.2, if_pos rfl] at a5
  rw [c6H, if_neg (by decide)] at a6
  rw [c7H] at a7
  rw [c8H.1, c8H.2] at a8
  simp only [loadH, fH17, lH17, List.map_cons, List.map_nil, Seg.a, Leg.a, Vec.a, num] at a1 a2 a3 a4 a5 a6 a7 a8 s1
  refine VPure.of v_liverylaw17_head_ok (Nat.le_of_ble_eq_true rfl) (fun Z st => ?_)
  simp only [v_liverylaw17_head, ↓vD, vU, ↓vMd, vMu, VE.ev, VE.evs, retvs, tupOf, grab, vfill, vbsl, eqCells, eqCell, veqs, veqs1, vmnx, AV.isCell, AV.isUndef, Nat.reduceEqDiff, Nat.reduceAdd, Nat.reduceSub, Nat.reduceLeDiff, Nat.reduceLT, reduceIte, reduceCtorEq, Nat.reduceBEq, k_app, k_slc1]
  (repeat' (first | (simp (config := { maxDischargeDepth := 16 }) only [*, vX, Int.reduceLE, Int.reduceLT, Int.reduceGE, Int.reduceGT, Int.reduceBEq, Int.reduceBNe, Int.reduceAdd, Int.reduceSub, Int.reduceMul, Int.reduceNeg, ↓vD, vU, ↓vMd, vMu, VE.ev, VE.evs, retvs, tupOf, grab, vfill, vbsl, eqCells, eqCell, veqs, veqs1, vmnx, AV.isCell, AV.isUndef, Nat.reduceEqDiff, Nat.reduceAdd, Nat.reduceSub, Nat.reduceLeDiff, Nat.reduceLT, reduceIte, reduceCtorEq, Nat.reduceBEq]) | (simp (disch := first | assumption | omega | exact Seg.len _ | exact Vec.len _ | exact Leg.len _ | exact num_len _ | exact rowA_len _ | exact rowA_len | exact rowT_len _ | exact rowT_len | exact Seg.len | exact Vec.len | exact Leg.len | exact num_len | exact AV.slen _ _ | rfl) only [vP]) | ((with_reducible first | refine gsnd ?_ ?_ | refine csnd ?_ ?_ | refine gsd ?_ ?_ | refine csd ?_ ?_ | refine gsn ?_ ?_ | refine csn ?_ ?_ | refine gs ?_ ?_ | refine cs_ ?_ ?_) <;> intro _) | (with_reducible refine objQ_i (fun _ _ => ?_); (repeat (with_reducible refine imp_i (fun _ => ?_)))) | (with_reducible first | refine callH_use (vec_17 _ _) ?_ | refine pureQ_use (vec_17 _ _) ?_) | (with_reducible first | refine callH_use (a1) ?_ | refine pureQ_use (a1) ?_) | (with_reducible first | refine callH_use (a2) ?_ | refine pureQ_use (a2) ?_) | (with_reducible first | refine callH_use (a3) ?_ | refine pureQ_use (a3) ?_) | (with_reducible first | refine callH_use (a4) ?_ | refine pureQ_use (a4) ?_) | (with_reducible first | refine callH_use (a5) ?_ | refine pureQ_use (a5) ?_) | (with_reducible first | refine callH_use (a6) ?_ | refine pureQ_use (a6) ?_) | (with_reducible first | refine callH_use (a7) ?_ | refine pureQ_use (a7) ?_) | (with_reducible first | refine callH_use (a8) ?_ | refine pureQ_use (a8) ?_) | (with_reducible first | refine callH_use (s1) ?_ | refine pureQ_use (s1) ?_)))
end Go.Proofs.Ytglekfgoadehbaa.V
end
section
set_option linter.unusedSimpArgs false
set_option linter.unusedVariables false
/- The compiled functions of the package liveryref16 (printed by Print.lean of this work). -/
namespace Go.Proofs.Ytglekfgoadehbaa.V
open Go Go.Proofs
end Go.Proofs.Ytglekfgoadehbaa.V
end
section
set_option linter.unusedSimpArgs false
set_option linter.unusedVariables false
/- slot.Earliest, Latest; liveryref16.Same; liverylaw16.v, head, great. -/
namespace Go.Proofs.Ytglekfgoadehbaa.V
open Go Go.Proofs
set_option maxRecDepth 100000
set_option maxHeartbeats 4000000
end Go.Proofs.Ytglekfgoadehbaa.V
end
section
set_option linter.unusedSimpArgs false
set_option linter.unusedVariables false
/- What is handed in, as V's values: structs and arrays of any parts. -/
namespace Go.Proofs.Ytglekfgoadehbaa.V
open Go Go.ChangeShapes Go.WideShapes Go.ChangeAt Go.RowKit Go.Deep
set_option maxRecDepth 100000
/-- Cells of a type, wherever they lie. -/
def OpC (t : TypeId) (sz : Nat) (R : List AV → Prop) : Prop :=
  ∀ {H : Type} {enc : TypeId × Value → H} {w : World} {base : Nat} {spare : Nat → Bool} {held : Bool} {fuel : Nat} {cs : List Value} {x : DataW H × List MemPlace}, DataW.trod enc Try.prog w base spare held fuel t cs = some x →
    ∃ l : List AV, RepL (imW w) l cs ∧ l.length = sz ∧ l.all AV.isCell = true ∧ R l
theorem OpC.mono {t : TypeId} {sz : Nat} {R R' : List AV → Prop} (h : OpC t sz R) (hr : ∀ l, R l → R' l) : OpC t sz R' := fun hx => by
  obtain ⟨l, h1, h2, h3, h4⟩ := h hx
  exact ⟨l, h1, h2, h3, hr l h4⟩
theorem opn_of {α : Type} {t : TypeId} {sz : Nat} {f : α → AV} {wf : α → Prop} (h : OpC t sz (fun l => ∃ v, l = (f v).cells ∧ wf v)) : Opn t sz f wf := fun hx => by
  obtain ⟨l, h1, h2, h3, v, rfl, h4⟩ := h hx
  exact ⟨v, h1, by simp [okEl, h2, h3], h4⟩
theorem opc_of {α : Type} {t : TypeId} {sz : Nat} {f : α → AV} {wf : α → Prop} (h : Opn t sz f wf) : OpC t sz (fun l => ∃ v, l = (f v).cells ∧ wf v) := fun hx => by
  obtain ⟨v, h1, h2, h3⟩ := h hx
  simp only [okEl, Bool.and_eq_true, beq_iff_eq] at h2
  exact ⟨_, h1, h2.1, h2.2, v, rfl, h3⟩
theorem opc_int {t : TypeId} {k : IntKind} (ht : Try.prog.underlying t = some (.int k)) : OpC t 1 (fun l => ∃ n, l = [.int k n] ∧ (Lit.int k n).wf = true) := by
  intro H enc w base spare held fuel cs x h
  obtain ⟨a, rfl, _, wa⟩ := DataW.trod_int ht h
  exact ⟨[.int k a], by simp [RepL, Rep], rfl, rfl, a, rfl, wa⟩
theorem opc_sl {α : Type} [Inhabited α] {t e : TypeId} {sz : Nat} {f : α → AV} {wf : α → Prop} (ht : Try.prog.underlying t = some (.slice e)) (hsz : Try.prog.cellsOf e = sz) (hp : 0 < sz) (hO : Opn e sz f wf) :
    OpC t 1 (fun l => ∃ xs : List α, l = [.sl (xs.map f) .no] ∧ (∀ x ∈ xs, wf x) ∧ (xs.length : Int) ≤ 9223372036854775807) :=
  OpC.mono (opc_of (opn_sl ht hsz hp hO)) (by rintro l ⟨xs, rfl, h⟩; exact ⟨xs, rfl, h⟩)
def tot : List (Nat × (List AV → Prop)) → Nat
  | [] => 0
  | (n, _) :: r => n + tot r
def AllC : List (Nat × (List AV → Prop)) → List AV → Prop
  | [], l => l = []
  | (_, R) :: r, l => ∃ a b, l = a ++ b ∧ R a ∧ AllC r b
def Parts (w : World) (cs : List Value) : Nat → List (Nat × (List AV → Prop)) → Prop
  | _, [] => True
  | o, (n, R) :: r => (∃ a : List AV, RepL (imW w) a ((cs.drop o).take n) ∧ a.length = n ∧ a.all AV.isCell = true ∧ R a) ∧ Parts w cs (o + n) r
theorem glue {w : World} {cs : List Value} : ∀ {ps : List (Nat × (List AV → Prop))} {o : Nat}, Parts w cs o ps → ∃ l : List AV, RepL (imW w) l ((cs.drop o).take (tot ps)) ∧ l.length = tot ps ∧ l.all AV.isCell = true ∧ AllC ps l
  | [], o, _ => ⟨[], by simp [tot, RepL], rfl, rfl, rfl⟩
  | (n, R) :: r, o, ⟨⟨a, h1, h2, h3, h4⟩, h⟩ => by
    obtain ⟨b, k1, k2, k3, k4⟩ := glue h
    refine ⟨a ++ b, ?_, by simp [h2, k2, tot], by simp only [List.all_append, h3, k3, Bool.and_self], a, b, rfl, h4, k4⟩
    simp only [tot]
    rw [List.take_add, List.drop_drop]
    exact h1.append k1
/-- The fields of a struct, one behind the other. -/
def SeqC : List Field → Nat → List (Nat × (List AV → Prop)) → Prop
  | [], _, [] => True
  | f :: fs, o, (n, R) :: r => (f.offset = o ∧ Try.prog.cellsOf f.type = n ∧ OpC f.type n R) ∧ SeqC fs (o + n) r
  | _, _, _ => False
theorem opc_struct {t : TypeId} {fs : Array Field} {ps : List (Nat × (List AV → Prop))} (ht : Try.prog.underlying t = some (.struct fs)) (hsz : Try.prog.cellsOf t = tot ps) (hs : SeqC fs.toList 0 ps) : OpC t (tot ps) (AllC ps) := by
  intro H enc w base spare held fuel cs x h
  obtain ⟨xs, n, _, rfl, hl, hlen, hf⟩ := DataW.trod_struct ht h
  have key : ∀ (fl : List Field) (o : Nat) (ps : List (Nat × (List AV → Prop))), (∀ f ∈ fl, ∃ y, DataW.trod enc Try.prog w base spare held n f.type ((cs.drop f.offset).take (Try.prog.cellsOf f.type)) = some y) → SeqC fl o ps → Parts w cs o ps := by
    intro fl
    induction fl with
    | nil =>
      intro o ps _ hs
      cases ps with
      | nil => trivial
      | cons p r => exact hs.elim
    | cons f fl ih =>
      intro o ps hy hs
      match ps, hs with
      | (m, R) :: r, ⟨⟨e1, e2, h3⟩, h4⟩ =>
        obtain ⟨y, hy1⟩ := hy f (by simp)
        rw [e1, e2] at hy1
        exact ⟨h3 hy1, ih _ _ (fun g hg => hy g (by simp [hg])) h4⟩
  have hp := key fs.toList 0 ps (fun f hfm => by
    obtain ⟨i, hi, rfl⟩ := List.getElem_of_mem hfm
    have hi2 : i < fs.size := by simpa using hi
    have := hf i fs[i] (by simp [hi2])
    rw [List.getElem?_eq_getElem (by omega)] at this
    exact ⟨_, by simpa using this⟩) hs
  obtain ⟨l, k1, k2, k3, k4⟩ := glue hp
  refine ⟨l, ?_, k2, k3, k4⟩
  rw [List.drop_zero, List.take_of_length_le (by omega)] at k1
  exact k1
/-- A struct that is handed in. -/
theorem open_agg {α : Type} {t : TypeId} {sz : Nat} {g : α → List AV} {wf : α → Prop} {fs : Array Field} (ht : Try.prog.underlying t = some (.struct fs)) (hO : Opn t sz (fun x => .agg (g x)) wf)
    {H : Type} {enc : TypeId × Value → H} {w : World} {base base' : Nat} {spare : Nat → Bool} {held : Bool} {v : Value} {d : DataW H} {ps : List MemPlace} {r : Reach} (hval : Value.okWide Try.prog w r base' t v) (h : DataW.Trod enc Try.prog w base spare held t v d ps) :
    ∃ x : α, Rep (imW w) (.agg (g x)) v ∧ wf x := by
  simp only [Value.okWide, ht] at hval
  obtain ⟨cs, rfl, hsz, _⟩ := hval
  obtain ⟨fuel, hf⟩ := h
  obtain ⟨x, h1, _, h3⟩ := hO hf
  exact ⟨x, by simp only [Rep]; exact ⟨cs, rfl, h1⟩, h3⟩
/-! The structs of times and resources. -/
def wfLeg (x : Leg) : Prop := I64 x.d ∧ wfVec x.v
theorem opc_i64 : OpC 2 1 (fun l => ∃ n, l = [.int .i64 n] ∧ I64 n) := OpC.mono (opc_int (by kernel_rfl)) (by rintro l ⟨n, rfl, h⟩; exact ⟨n, rfl, i64_of h⟩)
theorem opn_win : Opn 43 2 Vec.a wfVec :=
  opn_of (OpC.mono (opc_struct (ps := [(1, _), (1, _)]) Try.underlying43 (by kernel_rfl) ⟨⟨rfl, by kernel_rfl, opc_i64⟩, ⟨rfl, by kernel_rfl, opc_i64⟩, trivial⟩) (by
    rintro l ⟨_, _, rfl, ⟨a, rfl, ha⟩, _, _, rfl, ⟨b, rfl, hb⟩, rfl⟩
    exact ⟨⟨a, b⟩, rfl, ha, hb⟩))
theorem opn_leg : Opn 63 3 Leg.a wfLeg :=
  opn_of (OpC.mono (opc_struct (ps := [(1, _), (2, _)]) Try.underlying63 (by kernel_rfl) ⟨⟨rfl, by kernel_rfl, opc_i64⟩, ⟨rfl, by kernel_rfl, opc_of opn_vec⟩, trivial⟩) (by
    rintro l ⟨_, _, rfl, ⟨a, rfl, ha⟩, _, _, rfl, ⟨b, rfl, hb⟩, rfl⟩
    exact ⟨⟨a, b⟩, rfl, ha, hb⟩))
end Go.Proofs.Ytglekfgoadehbaa.V
end
section
set_option linter.unusedSimpArgs false
set_option linter.unusedVariables false
/- SlotCut, walked. -/
namespace Go.Proofs.Ytglekfgoadehbaa.V
open Go Go.Proofs
set_option maxRecDepth 100000
set_option maxHeartbeats 4000000
/-- A window, legs, two numbers of a byte. -/
structure RowX where
  w : Vec
  l : List Leg
  b0 : Int
  b1 : Int
  deriving Inhabited
def RowX.a (x : RowX) : AV := .agg [.int .i64 x.w.m, .int .i64 x.w.c, .sl (x.l.map Leg.a) .no, .int .u8 x.b0, .int .u8 x.b1]
end Go.Proofs.Ytglekfgoadehbaa.V
end
section
set_option linter.unusedSimpArgs false
set_option linter.unusedVariables false
/- What the package fit's functions compute: far, window, Fits. -/
namespace Go.Proofs.Ytglekfgoadehbaa.V
open Go Go.Proofs
set_option maxRecDepth 100000
set_option maxHeartbeats 4000000
end Go.Proofs.Ytglekfgoadehbaa.V
end
section
set_option linter.unusedSimpArgs false
set_option linter.unusedVariables false
/- SlotFits' law, in plain Lean. -/
namespace Go.Proofs.Ytglekfgoadehbaa.V
open Go Go.Proofs
theorem sumD_nn : ∀ {l : List Leg}, (∀ x ∈ l, 1 ≤ x.d) → 0 ≤ sumD l
  | [], _ => by simp [sumD]
  | x :: r, h => by
    have h1 := sumD_nn (l := r) (fun y hy => h y (by simp [hy]))
    have h2 := h x (by simp)
    simp only [sumD]; omega
/-- Rows, by their places. -/
theorem RowsG.at {hi : Int} : ∀ {l : List Vec} {lo : Int}, RowsG lo hi l → ∀ i (h : i < l.length), (lo ≤ l[i].m ∧ l[i].m < l[i].c ∧ l[i].c ≤ hi) ∧ ∀ j (h2 : j < l.length), i < j → l[i].c < l[j].m
  | [], _, _, i, h => by simp at h
  | w :: r, lo, ⟨a, b, c, d⟩, 0, h => ⟨⟨a, b, c⟩, fun j h2 h3 => by
      obtain ⟨j, rfl⟩ : ∃ q, j = q + 1 := ⟨j - 1, by omega⟩
      have := (d.at j (by simpa using h2)).1.1
      simp only [List.getElem_cons_zero, List.getElem_cons_succ]; omega⟩
  | w :: r, lo, ⟨a, b, c, d⟩, i + 1, h => by
      obtain ⟨⟨h1, h2, h3⟩, h4⟩ := d.at i (by simpa using h)
      refine ⟨⟨by simp only [List.getElem_cons_succ]; omega, by simpa using h2, by simpa using h3⟩, fun j g1 g2 => ?_⟩
      obtain ⟨j, rfl⟩ : ∃ q, j = q + 1 := ⟨j - 1, by omega⟩
      simpa using h4 j (by simpa using g1) (by omega)
theorem begins_to {f : List Seg} {w : Vec} {l : List Leg} (hO : OkB f w l) : ∀ x ∈ (beginsF f w l).1, x.c ≤ w.c := fun x hx => by
  obtain ⟨h1, h2⟩ := begins_is hO
  obtain ⟨i, hi, rfl⟩ := List.getElem_of_mem hx
  have hr := (h1.at i hi).1
  have := ((h2 ((beginsF f w l).1[i].c - 1)).1 ⟨_, hx, by simp only [inW]; omega⟩).2.1
  have hs : 1 ≤ sumD l := by
    have h3 := hO.pos
    have h4 := hO.len.1
    cases l with
    | nil => simp at h4
    | cons y r =>
      have : 0 ≤ sumD r := sumD_nn (fun z hz => (h3 z (by simp [hz])).1)
      have := (h3 y (by simp)).1
      simp only [sumD]; omega
  omega
end Go.Proofs.Ytglekfgoadehbaa.V
end
section
set_option linter.unusedSimpArgs false
set_option linter.unusedVariables false
/- CostBest, walked. -/
namespace Go.Proofs.Ytglekfgoadehbaa.V
open Go Go.Proofs
set_option maxRecDepth 100000
set_option maxHeartbeats 4000000
/-- A load, a function, a window, legs, how many are asked for. -/
structure Ask17 where
  load : List Seg
  f : List Seg
  w : Vec
  l : List Leg
  many : Int
  deriving Inhabited
def Ask17.a (x : Ask17) : AV := .agg [.sl (x.load.map Seg.a) .no, .sl (x.f.map Seg.a) .no, .int .i64 x.w.m, .int .i64 x.w.c, .sl (x.l.map Leg.a) .no, .int .i64 x.many]
def wfAsk17 (x : Ask17) : Prop := ((∀ y ∈ x.load, wfSeg y) ∧ (x.load.length : Int) ≤ 9223372036854775807) ∧ ((∀ y ∈ x.f, wfSeg y) ∧ (x.f.length : Int) ≤ 9223372036854775807) ∧ wfVec x.w ∧ ((∀ y ∈ x.l, wfLeg y) ∧ (x.l.length : Int) ≤ 9223372036854775807) ∧ (-9223372036854775808 ≤ x.many ∧ x.many ≤ 9223372036854775807)
/-- What the best ones are, where there are some. -/
structure Best17 (load f : List Seg) (w : Vec) (l : List Leg) (many : Int) (A : List Vec) (T B : List Int) (p : Int → Int) : Prop where
  rows : RowsG w.m (w.c + 1) A
  to : ∀ x ∈ A, x.c ≤ w.c
  win : -1099511627776 ≤ w.m ∧ w.m < w.c ∧ w.c ≤ 1099511627776 ∧ w.c - w.m ≤ 4096
  all : T = allT A
  up : T.Pairwise (· < ·)
  best : B = (bestL p T).take many.toNat
  cost : ∀ t ∈ T, costE load t l = (p t, 0)
  cheap : ∃ r, B = (cheapF load f w l).1 :: r
  least : (cheapF load f w l).2 = p (cheapF load f w l).1
  beg : begE load f w l = 0
  begs : beginsF f w l = (A, 0)
  num : 1 ≤ many ∧ many ≤ 64
theorem best17 {load f : List Seg} {w : Vec} {l : List Leg} {many : Int} (h : bestF load f w l many = 0) : Best17 load f w l many (beginsF f w l).1 (allT (beginsF f w l).1) ((bestL (costP load (lengthF l).1) (allT (beginsF f w l).1)).take many.toNat) (costP load (lengthF l).1) := by
  have h0 : begE load f w l = 0 ∧ 1 ≤ many ∧ many ≤ 64 := by
    unfold bestF at h
    split at h
    · simp at h
    · split at h
      · simp at h
      · exact ⟨h, by omega, by omega⟩
  obtain ⟨h0, h1, h2⟩ := h0
  obtain ⟨k1, k2, k3, k4, hO, k6, k7⟩ := begE_0 h0
  have hrow := (begins_is hO).1
  have hto := begins_to hO
  have h3' := hO.from_
  have h4' := hO.to_
  have hsp := hO.span
  have hwin := hO.win
  simp only [farF, Bool.or_eq_false_iff, decide_eq_false_iff_not] at h3' h4'
  have hup := allT_up hrow
  have hne := allT_ne k4
  obtain ⟨r, hr⟩ := bestL_head (costP load (lengthF l).1) hup hne
  refine ⟨hrow, hto, ⟨by omega, hwin, by omega, hsp⟩, rfl, hup, rfl, fun t ht => ?_, ?_, ?_, h0, by rw [← k2], h1, h2⟩
  · have hm := mem_allT.1 ht
    obtain ⟨x, hx, hxt⟩ := hm
    have h5 := hto x hx
    have h6 := hrow.low ⟨x, hx, hxt⟩
    have hf : farF t = false := by
      unfold inW at hxt
      simp only [farF, Bool.or_eq_false_iff, decide_eq_false_iff_not]; omega
    have hl : (lengthF l).2 = 0 := by
      have h1 := check_1 hO
      unfold checkF at h1
      split at h1
      · split at h1
        · simp at h1
        · rename_i hx; simp only [not_or, Decidable.not_not] at hx; exact hx.1
      · simp at h1
    unfold costE
    rw [if_pos k1, hl, hf, k3]; rfl
  · obtain ⟨m, hm⟩ : ∃ m, many.toNat = m + 1 := ⟨many.toNat - 1, by omega⟩
    refine ⟨r.take m, ?_⟩
    rw [hr, hm, List.take_succ_cons]
    unfold cheapF
    rw [if_pos h0]
  · unfold cheapF
    rw [if_pos h0]
theorem Best17.len {load f : List Seg} {w : Vec} {l : List Leg} {many : Int} {A : List Vec} {T B : List Int} {p : Int → Int} (h : Best17 load f w l many A T B p) : (B.length : Int) = min (T.length : Int) many := by
  rw [h.best, List.length_take, len_bestL]
  have := h.num
  omega
theorem Best17.mem {load f : List Seg} {w : Vec} {l : List Leg} {many : Int} {A : List Vec} {T B : List Int} {p : Int → Int} (h : Best17 load f w l many A T B p) : ∀ t ∈ B, t ∈ T := fun t ht => by
  rw [h.best] at ht
  exact (mem_bestL p).1 (List.mem_of_mem_take ht)
theorem Best17.next {load f : List Seg} {w : Vec} {l : List Leg} {many : Int} {A : List Vec} {T B : List Int} {p : Int → Int} (h : Best17 load f w l many A T B p) {q : Nat} (hq : q + 1 < B.length) : kLt p B[q] B[q + 1] := by
  have hup := bestL_up p h.up
  have : B.Pairwise (kLt p) := by rw [h.best]; exact hup.sublist (List.take_sublist _ _)
  exact List.pairwise_iff_getElem.1 this q (q + 1) (by omega) hq (by omega)
theorem Best17.rest {load f : List Seg} {w : Vec} {l : List Leg} {many : Int} {A : List Vec} {T B : List Int} {p : Int → Int} (h : Best17 load f w l many A T B p) {t : Int} (ht : t ∈ T) (hn : t ∉ B) : ∀ y ∈ B, kLt p y t := fun y hy => by
  rw [h.best] at hn hy
  exact bestL_rest p h.up _ ht hn y hy
def lastF (p : Int → Int) (B : List Int) (k : Nat) : Int := if k = 0 then 0 else p (B.getD (k - 1) 0)
theorem costBest_v (x : Ask17) (hx : wfAsk17 x) : VPure Try.prog 6 [x.a] (.bool true) := by
  obtain ⟨load, f, w, l, many⟩ := x
  obtain ⟨⟨_, hl1⟩, ⟨_, hl2⟩, ⟨⟨w1, w2⟩, w3, w4⟩, ⟨_, hl3⟩, hm1, hm2⟩ := hx
  simp only at hl1 hl2 w1 w2 w3 w4 hl3 hm1 hm2
  simp only [Ask17.a]
  have hg := great_17 load hl1 f hl2 w l hl3 many .no .no .no
  refine VPure.of v_liverylaw17_CostBest_ok (Nat.le_of_ble_eq_true rfl) (fun Z st => ?_)
  by_cases hgr : great17 load f w l = true
  · rw [hgr] at hg
    clear hgr
    simp only [v_liverylaw17_CostBest, ↓vD, vU, ↓vMd, vMu, VE.ev, VE.evs, retvs, tupOf, grab, vfill, vbsl, eqCells, eqCell, veqs, veqs1, vmnx, AV.isCell, AV.isUndef, Nat.reduceEqDiff, Nat.reduceAdd, Nat.reduceSub, Nat.reduceLeDiff, Nat.reduceLT, reduceIte, reduceCtorEq, Nat.reduceBEq, k_app, k_slc1]
    (repeat' (first | (simp (config := { maxDischargeDepth := 16 }) only [*, vX, Int.reduceLE, Int.reduceLT, Int.reduceGE, Int.reduceGT, Int.reduceBEq, Int.reduceBNe, Int.reduceAdd, Int.reduceSub, Int.reduceMul, Int.reduceNeg, ↓vD, vU, ↓vMd, vMu, VE.ev, VE.evs, retvs, tupOf, grab, vfill, vbsl, eqCells, eqCell, veqs, veqs1, vmnx, AV.isCell, AV.isUndef, Nat.reduceEqDiff, Nat.reduceAdd, Nat.reduceSub, Nat.reduceLeDiff, Nat.reduceLT, reduceIte, reduceCtorEq, Nat.reduceBEq]) | (simp (disch := first | assumption | omega | exact Seg.len _ | exact Vec.len _ | exact Leg.len _ | exact num_len _ | exact rowA_len _ | exact rowA_len | exact rowT_len _ | exact rowT_len | exact Seg.len | exact Vec.len | exact Leg.len | exact num_len | exact AV.slen _ _ | rfl) only [vP]) | ((with_reducible first | refine gsnd ?_ ?_ | refine csnd ?_ ?_ | refine gsd ?_ ?_ | refine csd ?_ ?_ | refine gsn ?_ ?_ | refine csn ?_ ?_ | refine gs ?_ ?_ | refine cs_ ?_ ?_) <;> intro _) | (with_reducible refine objQ_i (fun _ _ => ?_); (repeat (with_reducible refine imp_i (fun _ => ?_)))) | (with_reducible first | refine callH_use (hg) ?_ | refine pureQ_use (hg) ?_) | (with_reducible first | refine callH_use (head_17) ?_ | refine pureQ_use (head_17) ?_)))
  have hgf : great17 load f w l = false := by simpa using hgr
  rw [hgf] at hg
  have hlim : load.length ≤ 60 ∧ f.length ≤ 60 ∧ l.length ≤ 20 := by
    unfold great17 preG at hgf
    simp only [Bool.or_eq_false_iff, decide_eq_false_iff_not] at hgf
    omega
  clear hgr hgf hl1 hl2 hl3
  obtain ⟨hl1, hl2, hl3⟩ := hlim
  have hB := Best_v load (by omega) f (by omega) w w1 w4 l (by omega) many .no .no .no
  by_cases he : bestF load f w l many = 0
  case neg =>
    unfold bestA at hB
    rw [if_neg he] at hB
    obtain ⟨e, hE⟩ : ∃ e, bestF load f w l many = e := ⟨_, rfl⟩
    rw [hE] at hB he
    unfold num at hB
    clear hE
    simp only [v_liverylaw17_CostBest, ↓vD, vU, ↓vMd, vMu, VE.ev, VE.evs, retvs, tupOf, grab, vfill, vbsl, eqCells, eqCell, veqs, veqs1, vmnx, AV.isCell, AV.isUndef, Nat.reduceEqDiff, Nat.reduceAdd, Nat.reduceSub, Nat.reduceLeDiff, Nat.reduceLT, reduceIte, reduceCtorEq, Nat.reduceBEq, k_app, k_slc1]
    (repeat' (first | (simp (config := { maxDischargeDepth := 16 }) only [*, List.map_nil, List.length_nil, vX, Int.reduceLE, Int.reduceLT, Int.reduceGE, Int.reduceGT, Int.reduceBEq, Int.reduceBNe, Int.reduceAdd, Int.reduceSub, Int.reduceMul, Int.reduceNeg, ↓vD, vU, ↓vMd, vMu, VE.ev, VE.evs, retvs, tupOf, grab, vfill, vbsl, eqCells, eqCell, veqs, veqs1, vmnx, AV.isCell, AV.isUndef, Nat.reduceEqDiff, Nat.reduceAdd, Nat.reduceSub, Nat.reduceLeDiff, Nat.reduceLT, reduceIte, reduceCtorEq, Nat.reduceBEq]) | (simp (disch := first | assumption | omega | exact Seg.len _ | exact Vec.len _ | exact Leg.len _ | exact num_len _ | exact rowA_len _ | exact rowA_len | exact rowT_len _ | exact rowT_len | exact Seg.len | exact Vec.len | exact Leg.len | exact num_len | exact AV.slen _ _ | rfl) only [List.map_nil, List.length_nil, vP]) | ((with_reducible first | refine gsnd ?_ ?_ | refine csnd ?_ ?_ | refine gsd ?_ ?_ | refine csd ?_ ?_ | refine gsn ?_ ?_ | refine csn ?_ ?_ | refine gs ?_ ?_ | refine cs_ ?_ ?_) <;> intro _) | (with_reducible refine objQ_i (fun _ _ => ?_); (repeat (with_reducible refine imp_i (fun _ => ?_)))) | (with_reducible first | refine callH_use (hg) ?_ | refine pureQ_use (hg) ?_) | (with_reducible first | refine callH_use (head_17) ?_ | refine pureQ_use (head_17) ?_) | (with_reducible first | refine callH_use (hB) ?_ | refine pureQ_use (hB) ?_)))
  have HH := Hid.mk (best17 he)
  unfold bestA at hB
  rw [if_pos he] at hB
  have hR := Begins_c f (by omega) w w1 w4 l (by omega) .no .no
  have hC := Cheapest_v load (by omega) f (by omega) w w1 w4 l (by omega) .no .no .no
  have hP := Hid.mk fun t => Cost_v load (by omega) t l (by omega) .no .no
  rw [HH.out.beg, HH.out.least] at hC
  rw [HH.out.begs] at hR
  have hlen := HH.out.len
  obtain ⟨p, hp⟩ : ∃ p, costP load (lengthF l).1 = p := ⟨_, rfl⟩
  obtain ⟨A, hA⟩ : ∃ A, (beginsF f w l).1 = A := ⟨_, rfl⟩
  simp only [hp, hA] at HH hlen hR hC hB
  obtain ⟨T, hT⟩ : ∃ T, allT A = T := ⟨_, rfl⟩
  simp only [hT] at HH hlen hB
  obtain ⟨B, hBB⟩ : ∃ B, (bestL p T).take many.toNat = B := ⟨_, rfl⟩
  simp only [hBB] at HH hlen hB
  have hch := HH.out.cheap
  obtain ⟨c0, hc0⟩ : ∃ c, (cheapF load f w l).1 = c := ⟨_, rfl⟩
  rw [hc0] at hch hC
  have hn := HH.out.num
  obtain ⟨n1, n2⟩ := hn
  have hpos : 0 < B.length := by obtain ⟨r, hr⟩ := hch; rw [hr]; simp
  have hB0 : B[0] = c0 := by obtain ⟨r, hr⟩ := hch; simp only [hr]; rfl
  have hlm : (B.length : Int) ≤ many := by omega
  have hl64 : B.length ≤ 64 := by omega
  have HL := Hid.mk hlen
  have hrow := HH.out.rows
  have htl := allT_len hrow (by have := HH.out.win; omega)
  rw [hT] at htl
  have hTl : T.length ≤ 5000 := by have := HH.out.win; omega
  have hAl : A.length ≤ 5000 := by
    have := hrow.rows.len (by have := HH.out.win; omega)
    have := HH.out.win; omega
  obtain ⟨v1, v2, v3, v4⟩ := HH.out.win
  have HA := Hid.mk hT
  clear hT hBB hc0 hch hlen he hp hA htl hrow
  unfold num at hR
  simp only [v_liverylaw17_CostBest, ↓vD, vU, ↓vMd, vMu, VE.ev, VE.evs, retvs, tupOf, grab, vfill, vbsl, eqCells, eqCell, veqs, veqs1, vmnx, AV.isCell, AV.isUndef, Nat.reduceEqDiff, Nat.reduceAdd, Nat.reduceSub, Nat.reduceLeDiff, Nat.reduceLT, reduceIte, reduceCtorEq, Nat.reduceBEq, k_app, k_slc1]
  (repeat' (first | (simp (config := { maxDischargeDepth := 16 }) only [*, num, List.length_map, vX, Int.reduceLE, Int.reduceLT, Int.reduceGE, Int.reduceGT, Int.reduceBEq, Int.reduceBNe, Int.reduceAdd, Int.reduceSub, Int.reduceMul, Int.reduceNeg, ↓vD, vU, ↓vMd, vMu, VE.ev, VE.evs, retvs, tupOf, grab, vfill, vbsl, eqCells, eqCell, veqs, veqs1, vmnx, AV.isCell, AV.isUndef, Nat.reduceEqDiff, Nat.reduceAdd, Nat.reduceSub, Nat.reduceLeDiff, Nat.reduceLT, reduceIte, reduceCtorEq, Nat.reduceBEq]) | (simp (disch := first | assumption | omega | exact Seg.len _ | exact Vec.len _ | exact Leg.len _ | exact num_len _ | exact rowA_len _ | exact rowA_len | exact rowT_len _ | exact rowT_len | exact Seg.len | exact Vec.len | exact Leg.len | exact num_len | exact AV.slen _ _ | rfl) only [num, List.length_map, vP]) | ((with_reducible first | refine gsnd ?_ ?_ | refine csnd ?_ ?_ | refine gsd ?_ ?_ | refine csd ?_ ?_ | refine gsn ?_ ?_ | refine csn ?_ ?_ | refine gs ?_ ?_ | refine cs_ ?_ ?_) <;> intro _) | (with_reducible refine objQ_i (fun _ _ => ?_); (repeat (with_reducible refine imp_i (fun _ => ?_)))) | (with_reducible first | refine callH_use (hg) ?_ | refine pureQ_use (hg) ?_) | (with_reducible first | refine callH_use (head_17) ?_ | refine pureQ_use (head_17) ?_) | (with_reducible first | refine callH_use (hB) ?_ | refine pureQ_use (hB) ?_) | (with_reducible first | refine callH_use (hR) ?_ | refine pureQ_use (hR) ?_) | (with_reducible first | refine callH_use (hC) ?_ | refine pureQ_use (hC) ?_)))
  refine loopp_of (len := B.length) (by simp only [asgL, dsts, List.cons_append, List.nil_append, List.append_nil]; rfl) (by simp only [noR, Bool.and_true, Bool.and_false]; rfl) (by omega) (fun k fr => fr.t 11 = .int .i64 k ∧ fr.t 10 = .int .i64 (lastF p B k)) ?_ ?_ ?_
  · simp [↓vD, vU, ↓vMd, vMu, VE.ev, VE.evs, retvs, tupOf, grab, vfill, vbsl, eqCells, eqCell, veqs, veqs1, vmnx, AV.isCell, AV.isUndef, Nat.reduceEqDiff, Nat.reduceAdd, Nat.reduceSub, Nat.reduceLeDiff, Nat.reduceLT, reduceIte, reduceCtorEq, Nat.reduceBEq, k_app, k_slc1, lastF]
  · rintro k fr hk hwk hfr hd ⟨h11, h10⟩
    obtain ⟨z, hz⟩ : ∃ z, B[k] = z := ⟨_, rfl⟩
    have hzB : z ∈ B := by rw [← hz]; exact List.getElem_mem _
    have hc := hP.out z
    rw [HH.out.cost z (HH.out.mem z hzB)] at hc
    have hl1 : lastF p B (k + 1) = p z := by
      unfold lastF
      rw [if_neg (by omega), Nat.add_sub_cancel, List.getD_eq_getElem?_getD, List.getElem?_eq_getElem hk, hz]; rfl
    rw [hl1]
    by_cases h0 : k = 0
    · subst h0
      obtain rfl : z = c0 := by rw [← hz, hB0]
      have hl0 : lastF p B 0 = 0 := rfl
      rw [hl0] at h10
      have HZ := Hid.mk hzB
      clear hl1 hl0 hzB hB0
      have h8 : fr.t 8 = .int .i64 (p z) := by rw [hfr 8 rfl]; simp [↓vD, vU, ↓vMd, vMu, VE.ev, VE.evs, retvs, tupOf, grab, vfill, vbsl, eqCells, eqCell, veqs, veqs1, vmnx, AV.isCell, AV.isUndef, Nat.reduceEqDiff, Nat.reduceAdd, Nat.reduceSub, Nat.reduceLeDiff, Nat.reduceLT, reduceIte, reduceCtorEq, Nat.reduceBEq, k_app, k_slc1]
      (repeat' (first | (simp (config := { maxDischargeDepth := 16 }) only [*, num, vX, Int.reduceLE, Int.reduceLT, Int.reduceGE, Int.reduceGT, Int.reduceBEq, Int.reduceBNe, Int.reduceAdd, Int.reduceSub, Int.reduceMul, Int.reduceNeg, ↓vD, vU, ↓vMd, vMu, VE.ev, VE.evs, retvs, tupOf, grab, vfill, vbsl, eqCells, eqCell, veqs, veqs1, vmnx, AV.isCell, AV.isUndef, Nat.reduceEqDiff, Nat.reduceAdd, Nat.reduceSub, Nat.reduceLeDiff, Nat.reduceLT, reduceIte, reduceCtorEq, Nat.reduceBEq]) | (simp (disch := first | assumption | omega | exact Seg.len _ | exact Vec.len _ | exact Leg.len _ | exact num_len _ | exact rowA_len _ | exact rowA_len | exact rowT_len _ | exact rowT_len | exact Seg.len | exact Vec.len | exact Leg.len | exact num_len | exact AV.slen _ _ | rfl) only [num, vP]) | ((with_reducible first | refine gsnd ?_ ?_ | refine csnd ?_ ?_ | refine gsd ?_ ?_ | refine csd ?_ ?_ | refine gsn ?_ ?_ | refine csn ?_ ?_ | refine gs ?_ ?_ | refine cs_ ?_ ?_) <;> intro _) | (with_reducible refine objQ_i (fun _ _ => ?_); (repeat (with_reducible refine imp_i (fun _ => ?_)))) | (with_reducible first | refine callH_use (hc) ?_ | refine pureQ_use (hc) ?_)))
    · obtain ⟨q, rfl⟩ : ∃ q, k = q + 1 := ⟨k - 1, by omega⟩
      have hn := HH.out.next hk
      obtain ⟨y, hy⟩ : ∃ y, B[q] = y := ⟨_, rfl⟩
      rw [hz, hy] at hn
      have hl0 : lastF p B (q + 1) = p y := by
        unfold lastF
        rw [if_neg (by omega), Nat.add_sub_cancel, List.getD_eq_getElem?_getD, List.getElem?_eq_getElem (by omega), hy]; rfl
      rw [hl0] at h10
      have hwq : IntKind.i64.wrap (((q + 1 : Nat) : Int) - 1) = q := by rw [wrap_i64 _ (by omega) (by omega)]; omega
      have e1 : B.getD ((q : Int) + 1).toNat default = z := by rw [toNat_succ, List.getD_eq_getElem?_getD, List.getElem?_eq_getElem hk, ← hz]; rfl
      have e0 : B.getD ((q : Int) + 1 - 1).toNat default = y := by rw [show ((q : Int) + 1 - 1).toNat = q by omega, List.getD_eq_getElem?_getD, List.getElem?_eq_getElem (by omega), ← hy]; rfl
      clear hl1 hl0 hzB
      obtain ⟨c, hcc⟩ : ∃ c, p z = c := ⟨_, rfl⟩
      obtain ⟨d, hdd⟩ : ∃ c, p y = c := ⟨_, rfl⟩
      unfold kLt at hn
      simp only [hcc, hdd] at hc hn h10 ⊢
      clear hcc hdd
      by_cases hcd : d < c
      · (repeat' (first | (simp (config := { maxDischargeDepth := 16 }) only [*, num, vX, Int.reduceLE, Int.reduceLT, Int.reduceGE, Int.reduceGT, Int.reduceBEq, Int.reduceBNe, Int.reduceAdd, Int.reduceSub, Int.reduceMul, Int.reduceNeg, ↓vD, vU, ↓vMd, vMu, VE.ev, VE.evs, retvs, tupOf, grab, vfill, vbsl, eqCells, eqCell, veqs, veqs1, vmnx, AV.isCell, AV.isUndef, Nat.reduceEqDiff, Nat.reduceAdd, Nat.reduceSub, Nat.reduceLeDiff, Nat.reduceLT, reduceIte, reduceCtorEq, Nat.reduceBEq]) | (simp (disch := first | assumption | omega | exact Seg.len _ | exact Vec.len _ | exact Leg.len _ | exact num_len _ | exact rowA_len _ | exact rowA_len | exact rowT_len _ | exact rowT_len | exact Seg.len | exact Vec.len | exact Leg.len | exact num_len | exact AV.slen _ _ | rfl) only [num, vP]) | ((with_reducible first | refine gsnd ?_ ?_ | refine csnd ?_ ?_ | refine gsd ?_ ?_ | refine csd ?_ ?_ | refine gsn ?_ ?_ | refine csn ?_ ?_ | refine gs ?_ ?_ | refine cs_ ?_ ?_) <;> intro _) | (with_reducible refine objQ_i (fun _ _ => ?_); (repeat (with_reducible refine imp_i (fun _ => ?_)))) | (with_reducible first | refine callH_use (hc) ?_ | refine pureQ_use (hc) ?_)))
        all_goals first | done | omega | trace_state
      · have hcd2 : c = d := by omega
        subst hcd2
        have hyz : y < z := by omega
        clear hn
        (repeat' (first | (simp (config := { maxDischargeDepth := 16 }) only [*, num, vX, Int.reduceLE, Int.reduceLT, Int.reduceGE, Int.reduceGT, Int.reduceBEq, Int.reduceBNe, Int.reduceAdd, Int.reduceSub, Int.reduceMul, Int.reduceNeg, ↓vD, vU, ↓vMd, vMu, VE.ev, VE.evs, retvs, tupOf, grab, vfill, vbsl, eqCells, eqCell, veqs, veqs1, vmnx, AV.isCell, AV.isUndef, Nat.reduceEqDiff, Nat.reduceAdd, Nat.reduceSub, Nat.reduceLeDiff, Nat.reduceLT, reduceIte, reduceCtorEq, Nat.reduceBEq]) | (simp (disch := first | assumption | omega | exact Seg.len _ | exact Vec.len _ | exact Leg.len _ | exact num_len _ | exact rowA_len _ | exact rowA_len | exact rowT_len _ | exact rowT_len | exact Seg.len | exact Vec.len | exact Leg.len | exact num_len | exact AV.slen _ _ | rfl) only [num, vP]) | ((with_reducible first | refine gsnd ?_ ?_ | refine csnd ?_ ?_ | refine gsd ?_ ?_ | refine csd ?_ ?_ | refine gsn ?_ ?_ | refine csn ?_ ?_ | refine gs ?_ ?_ | refine cs_ ?_ ?_) <;> intro _) | (with_reducible refine objQ_i (fun _ _ => ?_); (repeat (with_reducible refine imp_i (fun _ => ?_)))) | (with_reducible first | refine callH_use (hc) ?_ | refine pureQ_use (hc) ?_)))
        all_goals first | done | omega | trace_state
  · rintro fr hfr hd ⟨h11, h10⟩
    obtain ⟨y, hy⟩ : ∃ y, B[B.length - 1] = y := ⟨_, rfl⟩
    have hyB : y ∈ B := by rw [← hy]; exact List.getElem_mem _
    have hl0 : lastF p B B.length = p y := by
      unfold lastF
      rw [if_neg (by omega), List.getD_eq_getElem?_getD, List.getElem?_eq_getElem (by omega), hy]; rfl
    rw [hl0] at h10
    have hwl : IntKind.i64.wrap ((B.length : Int) - 1) = (B.length : Int) - 1 := wrap_i64 _ (by omega) (by omega)
    have el : B.getD ((B.length : Int) - 1).toNat default = y := by rw [show ((B.length : Int) - 1).toNat = B.length - 1 by omega, List.getD_eq_getElem?_getD, List.getElem?_eq_getElem (by omega), ← hy]; rfl
    have HY := Hid.mk hyB
    clear hl0 hy hyB hB0 hB hC hR
    (repeat' (first | (simp (config := { maxDischargeDepth := 16 }) only [*, vX, Int.reduceLE, Int.reduceLT, Int.reduceGE, Int.reduceGT, Int.reduceBEq, Int.reduceBNe, Int.reduceAdd, Int.reduceSub, Int.reduceMul, Int.reduceNeg, ↓vD, vU, ↓vMd, vMu, VE.ev, VE.evs, retvs, tupOf, grab, vfill, vbsl, eqCells, eqCell, veqs, veqs1, vmnx, AV.isCell, AV.isUndef, Nat.reduceEqDiff, Nat.reduceAdd, Nat.reduceSub, Nat.reduceLeDiff, Nat.reduceLT, reduceIte, reduceCtorEq, Nat.reduceBEq]) | (simp (disch := first | assumption | omega | exact Seg.len _ | exact Vec.len _ | exact Leg.len _ | exact num_len _ | exact rowA_len _ | exact rowA_len | exact rowT_len _ | exact rowT_len | exact Seg.len | exact Vec.len | exact Leg.len | exact num_len | exact AV.slen _ _ | rfl) only [vP]) | ((with_reducible first | refine gsnd ?_ ?_ | refine csnd ?_ ?_ | refine gsd ?_ ?_ | refine csd ?_ ?_ | refine gsn ?_ ?_ | refine csn ?_ ?_ | refine gs ?_ ?_ | refine cs_ ?_ ?_) <;> intro _) | (with_reducible refine objQ_i (fun _ _ => ?_); (repeat (with_reducible refine imp_i (fun _ => ?_))))))
    refine loopp_of (len := A.length) (by simp only [asgL, dsts, List.cons_append, List.nil_append, List.append_nil]; rfl) (by simp only [noR, Bool.and_true, Bool.and_false]; rfl) (by omega) (fun i fr2 => fr2.t 15 = .int .i64 i ∧ fr2.t 14 = .int .i64 ((allT (A.take i)).length : Int)) ?_ ?_ ?_
    · simp [↓vD, vU, ↓vMd, vMu, VE.ev, VE.evs, retvs, tupOf, grab, vfill, vbsl, eqCells, eqCell, veqs, veqs1, vmnx, AV.isCell, AV.isUndef, Nat.reduceEqDiff, Nat.reduceAdd, Nat.reduceSub, Nat.reduceLeDiff, Nat.reduceLT, reduceIte, reduceCtorEq, Nat.reduceBEq, k_app, k_slc1, allT]
    · rintro i fr2 hi hwi hfr2 hd2 ⟨h15, h14⟩
      obtain ⟨⟨a1, a2, a3⟩, _⟩ := HH.out.rows.at i hi
      have a4 := HH.out.to _ (List.getElem_mem hi)
      obtain ⟨z, hz⟩ : ∃ z, A[i] = z := ⟨_, rfl⟩
      have hzm : z ∈ A := by rw [← hz]; exact List.getElem_mem _
      have hT2 : allT (A.take (i + 1)) = allT (A.take i) ++ ticks z.m z.c := by
        rw [List.take_add_one, List.getElem?_eq_getElem hi, hz]
        unfold allT; rw [List.flatMap_append]; simp
      have hT3 : (allT (A.take (i + 1))).length = (allT (A.take i)).length + (z.c - z.m).toNat := by rw [hT2, List.length_append, ticks_len]
      have hT4 : (allT (A.take (i + 1))).length ≤ T.length := by
        rw [← HA.out]
        conv => rhs; rw [← List.take_append_drop (i + 1) A]
        unfold allT; rw [List.flatMap_append, List.length_append]; omega
      obtain ⟨N, hN⟩ : ∃ N, (allT (A.take i)).length = N := ⟨_, rfl⟩
      obtain ⟨n, hn⟩ : ∃ n, (z.c - z.m).toNat = n := ⟨_, rfl⟩
      rw [hN, hn] at hT3
      rw [hN] at h14
      rw [hT3]
      rw [hT3] at hT4
      rw [hz] at a1 a2 a3 a4
      have HN := Hid.mk hn
      have hNn : ((N + n : Nat) : Int) = N + n := by omega
      have HZ := Hid.mk hzm
      clear hT2 hT3 hN hn hzm
      (repeat' (first | (simp (config := { maxDischargeDepth := 16 }) only [*, Vec.a, vX, Int.reduceLE, Int.reduceLT, Int.reduceGE, Int.reduceGT, Int.reduceBEq, Int.reduceBNe, Int.reduceAdd, Int.reduceSub, Int.reduceMul, Int.reduceNeg, ↓vD, vU, ↓vMd, vMu, VE.ev, VE.evs, retvs, tupOf, grab, vfill, vbsl, eqCells, eqCell, veqs, veqs1, vmnx, AV.isCell, AV.isUndef, Nat.reduceEqDiff, Nat.reduceAdd, Nat.reduceSub, Nat.reduceLeDiff, Nat.reduceLT, reduceIte, reduceCtorEq, Nat.reduceBEq]) | (simp (disch := first | assumption | omega | exact Seg.len _ | exact Vec.len _ | exact Leg.len _ | exact num_len _ | exact rowA_len _ | exact rowA_len | exact rowT_len _ | exact rowT_len | exact Seg.len | exact Vec.len | exact Leg.len | exact num_len | exact AV.slen _ _ | rfl) only [Vec.a, vP]) | ((with_reducible first | refine gsnd ?_ ?_ | refine csnd ?_ ?_ | refine gsd ?_ ?_ | refine csd ?_ ?_ | refine gsn ?_ ?_ | refine csn ?_ ?_ | refine gs ?_ ?_ | refine cs_ ?_ ?_) <;> intro _) | (with_reducible refine objQ_i (fun _ _ => ?_); (repeat (with_reducible refine imp_i (fun _ => ?_))))))
      refine loopp_of (len := n) (by simp only [asgL, dsts, List.cons_append, List.nil_append, List.append_nil]; rfl) (by simp only [noR, Bool.and_true, Bool.and_false]; rfl) (by omega) (fun j fr3 => fr3.t 16 = .int .i64 (z.m + j) ∧ fr3.t 14 = .int .i64 ((N : Int) + j)) ?_ ?_ ?_
      · simp [↓vD, vU, ↓vMd, vMu, VE.ev, VE.evs, retvs, tupOf, grab, vfill, vbsl, eqCells, eqCell, veqs, veqs1, vmnx, AV.isCell, AV.isUndef, Nat.reduceEqDiff, Nat.reduceAdd, Nat.reduceSub, Nat.reduceLeDiff, Nat.reduceLT, reduceIte, reduceCtorEq, Nat.reduceBEq, k_app, k_slc1, *]
      · rintro j fr3 hj hwj hfr3 hd3 ⟨h16, h14'⟩
        obtain ⟨tt, htt⟩ : ∃ t : Int, z.m + j = t := ⟨_, rfl⟩
        have hin : z.m ≤ tt ∧ tt < z.c := by have := HN.out; omega
        obtain ⟨t1, t2⟩ := hin
        have hTT : tt ∈ T := by rw [← HA.out]; exact mem_allT.2 ⟨z, HZ.out, t1, t2⟩
        have hc := hP.out tt
        rw [HH.out.cost tt hTT] at hc
        have hrest := HH.out.rest hTT
        have HR := Hid.mk fun h => hrest h y HY.out
        rw [htt] at h16
        have htn : z.m + ((j + 1 : Nat) : Int) = tt + 1 := by omega
        have hNn2 : (N : Int) + ((j + 1 : Nat) : Int) = N + j + 1 := by omega
        rw [htn, hNn2]
        have hwt : IntKind.i64.wrap (tt + 1) = tt + 1 := wrap_i64 _ (by omega) (by omega)
        have hwn : IntKind.i64.wrap ((N : Int) + j + 1) = (N : Int) + j + 1 := wrap_i64 _ (by omega) (by omega)
        clear htt hwj htn hNn2 hTT hrest
        (repeat' (first | (simp (config := { maxDischargeDepth := 16 }) only [*, Vec.a, vX, Int.reduceLE, Int.reduceLT, Int.reduceGE, Int.reduceGT, Int.reduceBEq, Int.reduceBNe, Int.reduceAdd, Int.reduceSub, Int.reduceMul, Int.reduceNeg, ↓vD, vU, ↓vMd, vMu, VE.ev, VE.evs, retvs, tupOf, grab, vfill, vbsl, eqCells, eqCell, veqs, veqs1, vmnx, AV.isCell, AV.isUndef, Nat.reduceEqDiff, Nat.reduceAdd, Nat.reduceSub, Nat.reduceLeDiff, Nat.reduceLT, reduceIte, reduceCtorEq, Nat.reduceBEq]) | (simp (disch := first | assumption | omega | exact Seg.len _ | exact Vec.len _ | exact Leg.len _ | exact num_len _ | exact rowA_len _ | exact rowA_len | exact rowT_len _ | exact rowT_len | exact Seg.len | exact Vec.len | exact Leg.len | exact num_len | exact AV.slen _ _ | rfl) only [Vec.a, vP]) | ((with_reducible first | refine gsnd ?_ ?_ | refine csnd ?_ ?_ | refine gsd ?_ ?_ | refine csd ?_ ?_ | refine gsn ?_ ?_ | refine csn ?_ ?_ | refine gs ?_ ?_ | refine cs_ ?_ ?_) <;> intro _) | (with_reducible refine objQ_i (fun _ _ => ?_); (repeat (with_reducible refine imp_i (fun _ => ?_))))))
        refine loopp_of (len := B.length) (by simp only [asgL, dsts, List.cons_append, List.nil_append, List.append_nil]; rfl) (by simp only [noR, Bool.and_true, Bool.and_false]; rfl) (by omega) (fun k fr4 => fr4.t 18 = .int .i64 k ∧ fr4.t 17 = .bool ((B.take k).any (fun x => x == tt))) ?_ ?_ ?_
        · simp [↓vD, vU, ↓vMd, vMu, VE.ev, VE.evs, retvs, tupOf, grab, vfill, vbsl, eqCells, eqCell, veqs, veqs1, vmnx, AV.isCell, AV.isUndef, Nat.reduceEqDiff, Nat.reduceAdd, Nat.reduceSub, Nat.reduceLeDiff, Nat.reduceLT, reduceIte, reduceCtorEq, Nat.reduceBEq, k_app, k_slc1]
        · rintro k fr4 hk hwk hfr4 hd4 ⟨h18, h17⟩
          obtain ⟨x, hx⟩ : ∃ x, B[k] = x := ⟨_, rfl⟩
          have hnx : (B.take (k + 1)).any (fun x => x == tt) = ((B.take k).any (fun x => x == tt) || (x == tt)) := by
            rw [List.take_add_one, List.getElem?_eq_getElem hk, hx]; simp
          rw [hnx]
          obtain ⟨b, hb⟩ : ∃ b, (B.take k).any (fun x => x == tt) = b := ⟨_, rfl⟩
          rw [hb] at h17 ⊢
          clear hnx hb hc
          cases b
          · (repeat' (first | (simp (config := { maxDischargeDepth := 16 }) only [*, num, vX, Int.reduceLE, Int.reduceLT, Int.reduceGE, Int.reduceGT, Int.reduceBEq, Int.reduceBNe, Int.reduceAdd, Int.reduceSub, Int.reduceMul, Int.reduceNeg, ↓vD, vU, ↓vMd, vMu, VE.ev, VE.evs, retvs, tupOf, grab, vfill, vbsl, eqCells, eqCell, veqs, veqs1, vmnx, AV.isCell, AV.isUndef, Nat.reduceEqDiff, Nat.reduceAdd, Nat.reduceSub, Nat.reduceLeDiff, Nat.reduceLT, reduceIte, reduceCtorEq, Nat.reduceBEq]) | (simp (disch := first | assumption | omega | exact Seg.len _ | exact Vec.len _ | exact Leg.len _ | exact num_len _ | exact rowA_len _ | exact rowA_len | exact rowT_len _ | exact rowT_len | exact Seg.len | exact Vec.len | exact Leg.len | exact num_len | exact AV.slen _ _ | rfl) only [num, vP]) | ((with_reducible first | refine gsnd ?_ ?_ | refine csnd ?_ ?_ | refine gsd ?_ ?_ | refine csd ?_ ?_ | refine gsn ?_ ?_ | refine csn ?_ ?_ | refine gs ?_ ?_ | refine cs_ ?_ ?_) <;> intro _) | (with_reducible refine objQ_i (fun _ _ => ?_); (repeat (with_reducible refine imp_i (fun _ => ?_))))))
            all_goals first | done | simp | trace_state
          · (repeat' (first | (simp (config := { maxDischargeDepth := 16 }) only [*, num, vX, Int.reduceLE, Int.reduceLT, Int.reduceGE, Int.reduceGT, Int.reduceBEq, Int.reduceBNe, Int.reduceAdd, Int.reduceSub, Int.reduceMul, Int.reduceNeg, ↓vD, vU, ↓vMd, vMu, VE.ev, VE.evs, retvs, tupOf, grab, vfill, vbsl, eqCells, eqCell, veqs, veqs1, vmnx, AV.isCell, AV.isUndef, Nat.reduceEqDiff, Nat.reduceAdd, Nat.reduceSub, Nat.reduceLeDiff, Nat.reduceLT, reduceIte, reduceCtorEq, Nat.reduceBEq]) | (simp (disch := first | assumption | omega | exact Seg.len _ | exact Vec.len _ | exact Leg.len _ | exact num_len _ | exact rowA_len _ | exact rowA_len | exact rowT_len _ | exact rowT_len | exact Seg.len | exact Vec.len | exact Leg.len | exact num_len | exact AV.slen _ _ | rfl) only [num, vP]) | ((with_reducible first | refine gsnd ?_ ?_ | refine csnd ?_ ?_ | refine gsd ?_ ?_ | refine csd ?_ ?_ | refine gsn ?_ ?_ | refine csn ?_ ?_ | refine gs ?_ ?_ | refine cs_ ?_ ?_) <;> intro _) | (with_reducible refine objQ_i (fun _ _ => ?_); (repeat (with_reducible refine imp_i (fun _ => ?_))))))
            all_goals first | done | simp | trace_state
        · rintro fr4 hfr4 hd4 ⟨h18, h17⟩
          rw [List.take_length] at h17
          by_cases hm : tt ∈ B
          · have h1 : B.any (fun x => x == tt) = true := List.any_eq_true.2 ⟨tt, hm, by simp⟩
            rw [h1] at h17
            clear h1 hm HR
            (repeat' (first | (simp (config := { maxDischargeDepth := 16 }) only [*, num, vX, Int.reduceLE, Int.reduceLT, Int.reduceGE, Int.reduceGT, Int.reduceBEq, Int.reduceBNe, Int.reduceAdd, Int.reduceSub, Int.reduceMul, Int.reduceNeg, ↓vD, vU, ↓vMd, vMu, VE.ev, VE.evs, retvs, tupOf, grab, vfill, vbsl, eqCells, eqCell, veqs, veqs1, vmnx, AV.isCell, AV.isUndef, Nat.reduceEqDiff, Nat.reduceAdd, Nat.reduceSub, Nat.reduceLeDiff, Nat.reduceLT, reduceIte, reduceCtorEq, Nat.reduceBEq]) | (simp (disch := first | assumption | omega | exact Seg.len _ | exact Vec.len _ | exact Leg.len _ | exact num_len _ | exact rowA_len _ | exact rowA_len | exact rowT_len _ | exact rowT_len | exact Seg.len | exact Vec.len | exact Leg.len | exact num_len | exact AV.slen _ _ | rfl) only [num, vP]) | ((with_reducible first | refine gsnd ?_ ?_ | refine csnd ?_ ?_ | refine gsd ?_ ?_ | refine csd ?_ ?_ | refine gsn ?_ ?_ | refine csn ?_ ?_ | refine gs ?_ ?_ | refine cs_ ?_ ?_) <;> intro _) | (with_reducible refine objQ_i (fun _ _ => ?_); (repeat (with_reducible refine imp_i (fun _ => ?_)))) | (with_reducible first | refine callH_use (hc) ?_ | refine pureQ_use (hc) ?_)))
            all_goals first | done | omega | trace_state
          · have h1 : B.any (fun x => x == tt) = false := by
              rw [List.any_eq_false]; intro x hx; simp only [beq_iff_eq]; intro e; subst e; exact hm hx
            rw [h1] at h17
            have hk := HR.out hm
            unfold kLt at hk
            clear h1 hm HR
            by_cases hcd : p y < p tt
            · (repeat' (first | (simp (config := { maxDischargeDepth := 16 }) only [*, num, vX, Int.reduceLE, Int.reduceLT, Int.reduceGE, Int.reduceGT, Int.reduceBEq, Int.reduceBNe, Int.reduceAdd, Int.reduceSub, Int.reduceMul, Int.reduceNeg, ↓vD, vU, ↓vMd, vMu, VE.ev, VE.evs, retvs, tupOf, grab, vfill, vbsl, eqCells, eqCell, veqs, veqs1, vmnx, AV.isCell, AV.isUndef, Nat.reduceEqDiff, Nat.reduceAdd, Nat.reduceSub, Nat.reduceLeDiff, Nat.reduceLT, reduceIte, reduceCtorEq, Nat.reduceBEq]) | (simp (disch := first | assumption | omega | exact Seg.len _ | exact Vec.len _ | exact Leg.len _ | exact num_len _ | exact rowA_len _ | exact rowA_len | exact rowT_len _ | exact rowT_len | exact Seg.len | exact Vec.len | exact Leg.len | exact num_len | exact AV.slen _ _ | rfl) only [num, vP]) | ((with_reducible first | refine gsnd ?_ ?_ | refine csnd ?_ ?_ | refine gsd ?_ ?_ | refine csd ?_ ?_ | refine gsn ?_ ?_ | refine csn ?_ ?_ | refine gs ?_ ?_ | refine cs_ ?_ ?_) <;> intro _) | (with_reducible refine objQ_i (fun _ _ => ?_); (repeat (with_reducible refine imp_i (fun _ => ?_)))) | (with_reducible first | refine callH_use (hc) ?_ | refine pureQ_use (hc) ?_)))
              all_goals first | done | omega | trace_state
            · have hcd2 : p tt = p y := by omega
              have hyt : y < tt := by omega
              rw [hcd2] at hc
              clear hk hcd hcd2
              (repeat' (first | (simp (config := { maxDischargeDepth := 16 }) only [*, num, vX, Int.reduceLE, Int.reduceLT, Int.reduceGE, Int.reduceGT, Int.reduceBEq, Int.reduceBNe, Int.reduceAdd, Int.reduceSub, Int.reduceMul, Int.reduceNeg, ↓vD, vU, ↓vMd, vMu, VE.ev, VE.evs, retvs, tupOf, grab, vfill, vbsl, eqCells, eqCell, veqs, veqs1, vmnx, AV.isCell, AV.isUndef, Nat.reduceEqDiff, Nat.reduceAdd, Nat.reduceSub, Nat.reduceLeDiff, Nat.reduceLT, reduceIte, reduceCtorEq, Nat.reduceBEq]) | (simp (disch := first | assumption | omega | exact Seg.len _ | exact Vec.len _ | exact Leg.len _ | exact num_len _ | exact rowA_len _ | exact rowA_len | exact rowT_len _ | exact rowT_len | exact Seg.len | exact Vec.len | exact Leg.len | exact num_len | exact AV.slen _ _ | rfl) only [num, vP]) | ((with_reducible first | refine gsnd ?_ ?_ | refine csnd ?_ ?_ | refine gsd ?_ ?_ | refine csd ?_ ?_ | refine gsn ?_ ?_ | refine csn ?_ ?_ | refine gs ?_ ?_ | refine cs_ ?_ ?_) <;> intro _) | (with_reducible refine objQ_i (fun _ _ => ?_); (repeat (with_reducible refine imp_i (fun _ => ?_)))) | (with_reducible first | refine callH_use (hc) ?_ | refine pureQ_use (hc) ?_)))
              all_goals first | done | omega | trace_state
      · rintro fr3 hfr3 hd3 ⟨h16, h14'⟩
        have hzc : z.m + (n : Int) = z.c := by have := HN.out; omega
        rw [hzc] at h16
        clear hzc
        (repeat' (first | (simp (config := { maxDischargeDepth := 16 }) only [*, Vec.a, vX, Int.reduceLE, Int.reduceLT, Int.reduceGE, Int.reduceGT, Int.reduceBEq, Int.reduceBNe, Int.reduceAdd, Int.reduceSub, Int.reduceMul, Int.reduceNeg, ↓vD, vU, ↓vMd, vMu, VE.ev, VE.evs, retvs, tupOf, grab, vfill, vbsl, eqCells, eqCell, veqs, veqs1, vmnx, AV.isCell, AV.isUndef, Nat.reduceEqDiff, Nat.reduceAdd, Nat.reduceSub, Nat.reduceLeDiff, Nat.reduceLT, reduceIte, reduceCtorEq, Nat.reduceBEq]) | (simp (disch := first | assumption | omega | exact Seg.len _ | exact Vec.len _ | exact Leg.len _ | exact num_len _ | exact rowA_len _ | exact rowA_len | exact rowT_len _ | exact rowT_len | exact Seg.len | exact Vec.len | exact Leg.len | exact num_len | exact AV.slen _ _ | rfl) only [Vec.a, vP]) | ((with_reducible first | refine gsnd ?_ ?_ | refine csnd ?_ ?_ | refine gsd ?_ ?_ | refine csd ?_ ?_ | refine gsn ?_ ?_ | refine csn ?_ ?_ | refine gs ?_ ?_ | refine cs_ ?_ ?_) <;> intro _) | (with_reducible refine objQ_i (fun _ _ => ?_); (repeat (with_reducible refine imp_i (fun _ => ?_))))))
        all_goals first | done | omega | trace_state
    · rintro fr2 hfr2 hd2 ⟨h15, h14⟩
      rw [List.take_length, HA.out] at h14
      have hq : ((B.length : Int) == min (T.length : Int) many) = true := by rw [HL.out, beq_self_eq_true]
      (repeat' (first | (simp (config := { maxDischargeDepth := 16 }) only [*, vX, Int.reduceLE, Int.reduceLT, Int.reduceGE, Int.reduceGT, Int.reduceBEq, Int.reduceBNe, Int.reduceAdd, Int.reduceSub, Int.reduceMul, Int.reduceNeg, ↓vD, vU, ↓vMd, vMu, VE.ev, VE.evs, retvs, tupOf, grab, vfill, vbsl, eqCells, eqCell, veqs, veqs1, vmnx, AV.isCell, AV.isUndef, Nat.reduceEqDiff, Nat.reduceAdd, Nat.reduceSub, Nat.reduceLeDiff, Nat.reduceLT, reduceIte, reduceCtorEq, Nat.reduceBEq]) | (simp (disch := first | assumption | omega | exact Seg.len _ | exact Vec.len _ | exact Leg.len _ | exact num_len _ | exact rowA_len _ | exact rowA_len | exact rowT_len _ | exact rowT_len | exact Seg.len | exact Vec.len | exact Leg.len | exact num_len | exact AV.slen _ _ | rfl) only [vP]) | ((with_reducible first | refine gsnd ?_ ?_ | refine csnd ?_ ?_ | refine gsd ?_ ?_ | refine csd ?_ ?_ | refine gsn ?_ ?_ | refine csn ?_ ?_ | refine gs ?_ ?_ | refine cs_ ?_ ?_) <;> intro _) | (with_reducible refine objQ_i (fun _ _ => ?_); (repeat (with_reducible refine imp_i (fun _ => ?_)))) | (with_reducible first | refine callH_use (head_17) ?_ | refine pureQ_use (head_17) ?_)))
end Go.Proofs.Ytglekfgoadehbaa.V
end
section
set_option linter.unusedSimpArgs false
set_option linter.unusedVariables false
/- What the laws of cost are handed. -/
namespace Go.Proofs.Ytglekfgoadehbaa.V
open Go Go.ChangeShapes Go.WideShapes Go.ChangeAt Go.RowKit Go.Deep
set_option maxRecDepth 100000
theorem opn_Ask17 : Opn 46 6 Ask17.a wfAsk17 :=
  opn_of (OpC.mono (opc_struct (ps := [(1, _), (1, _), (2, _), (1, _), (1, _)]) Try.underlying46 (by kernel_rfl) ⟨⟨rfl, by kernel_rfl, opc_sl Try.underlying41 (by kernel_rfl) (by decide) opn_seg⟩, ⟨rfl, by kernel_rfl, opc_sl Try.underlying41 (by kernel_rfl) (by decide) opn_seg⟩,
    ⟨rfl, by kernel_rfl, opc_of opn_win⟩, ⟨rfl, by kernel_rfl, opc_sl Try.underlying44 (by kernel_rfl) (by decide) opn_leg⟩, ⟨rfl, by kernel_rfl, opc_int (k := .i64) (by kernel_rfl)⟩, trivial⟩) (by
    rintro l ⟨_, _, rfl, ⟨load, rfl, h1⟩, _, _, rfl, ⟨f, rfl, h2⟩, _, _, rfl, ⟨w, rfl, hw⟩, _, _, rfl, ⟨ls, rfl, hl⟩, _, _, rfl, ⟨n, rfl, hn⟩, rfl⟩
    exact ⟨⟨load, f, w, ls, n⟩, rfl, h1, h2, hw, hl, i64_of hn⟩))
theorem open_Ask17 {H : Type} {enc : TypeId × Value → H} {w : World} {base base' : Nat} {spare : Nat → Bool} {held : Bool} {v : Value} {d : DataW H} {ps : List MemPlace} {r : Reach} (hval : Value.okWide Try.prog w r base' 46 v) (h : DataW.Trod enc Try.prog w base spare held 46 v d ps) :
    ∃ x : Ask17, Rep (imW w) x.a v ∧ wfAsk17 x := open_agg (g := fun x : Ask17 => [.sl (x.load.map Seg.a) .no, .sl (x.f.map Seg.a) .no, .int .i64 x.w.m, .int .i64 x.w.c, .sl (x.l.map Leg.a) .no, .int .i64 x.many]) Try.underlying46 opn_Ask17 hval h
end Go.Proofs.Ytglekfgoadehbaa.V
end
