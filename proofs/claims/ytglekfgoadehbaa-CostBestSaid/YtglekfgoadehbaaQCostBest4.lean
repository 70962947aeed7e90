/- Texts of this claim, joined: Cspan, Cspan2, Pcalc6, Psum, Csum, CslLeg, VXslot, Cslot, VXcost, Ccost, Ptimes, Ctimes, Ccol, Cslot3, Cslot2, Cslot4, Pslot5, VXcmp. -/
import Derived.Test.YtglekfgoadehbaaQCostBest3
import Derived.Test.YtglekfgoadehbaaQCostBest2
import Derived.Test.YtglekfgoadehbaaProg
section
set_option linter.unusedSimpArgs false
set_option linter.unusedVariables false
/- What the package span's functions compute: in, runs, over, Low. -/
namespace Go.Proofs.Ytglekfgoadehbaa.V
open Go Go.Proofs
set_option maxRecDepth 100000
set_option maxHeartbeats 4000000
theorem MinI_v (x : Int) (r : List Int) (hr : r.length ≤ 1000000000) (t : Tok) : VPure Try.prog 126 [.sl ((x :: r).map num) t] (num (r.foldl min x)) := by
  obtain ⟨l, hl⟩ : ∃ l, x :: r = l := ⟨_, rfl⟩
  have h0 : l.getD 0 default = x := by rw [← hl]; rfl
  have hs : ∀ k, k < r.length → l.getD (k + 1) default = r[k]! := fun k hk => by rw [← hl]; simp [List.getD_eq_getElem?_getD, List.getElem?_eq_getElem hk]
  have hlen : (l.length : Int) = r.length + 1 := by rw [← hl]; simp
  rw [hl]
  have HS := Hid.mk hs
  clear hl hs
  refine VPure.of v_slices_Min_int64_int64_ok (Nat.le_of_ble_eq_true rfl) (fun Z st => ?_)
  simp only [v_slices_Min_int64_int64, ↓vD, vU, ↓vMd, vMu, VE.ev, VE.evs, retvs, tupOf, grab, vfill, vbsl, eqCells, eqCell, veqs, veqs1, vmnx, AV.isCell, AV.isUndef, Nat.reduceEqDiff, Nat.reduceAdd, Nat.reduceSub, Nat.reduceLeDiff, Nat.reduceLT, reduceIte, reduceCtorEq, Nat.reduceBEq, k_app, k_slc1]
  (repeat' (first | (simp (config := { maxDischargeDepth := 16 }) only [*, num, vX, Int.reduceLE, Int.reduceLT, Int.reduceGE, Int.reduceGT, Int.reduceBEq, Int.reduceBNe, Int.reduceAdd, Int.reduceSub, Int.reduceMul, Int.reduceNeg, ↓vD, vU, ↓vMd, vMu, VE.ev, VE.evs, retvs, tupOf, grab, vfill, vbsl, eqCells, eqCell, veqs, veqs1, vmnx, AV.isCell, AV.isUndef, Nat.reduceEqDiff, Nat.reduceAdd, Nat.reduceSub, Nat.reduceLeDiff, Nat.reduceLT, reduceIte, reduceCtorEq, Nat.reduceBEq]) | (simp (disch := first | assumption | omega | exact Seg.len _ | exact Vec.len _ | exact Leg.len _ | exact num_len _ | exact rowA_len _ | exact rowA_len | exact rowT_len _ | exact rowT_len | exact Seg.len | exact Vec.len | exact Leg.len | exact num_len | exact AV.slen _ _ | rfl) only [num, vP]) | ((with_reducible first | refine gsnd ?_ ?_ | refine csnd ?_ ?_ | refine gsd ?_ ?_ | refine csd ?_ ?_ | refine gsn ?_ ?_ | refine csn ?_ ?_ | refine gs ?_ ?_ | refine cs_ ?_ ?_) <;> intro _) | (with_reducible refine objQ_i (fun _ _ => ?_); (repeat (with_reducible refine imp_i (fun _ => ?_))))))
  refine loopp_of (len := r.length) (by simp only [asgL, dsts, List.cons_append, List.nil_append, List.append_nil]; rfl) (by simp only [noR, Bool.and_true, Bool.and_false]; rfl) (by omega) (fun k fr => fr.t 4 = .int .i64 ((k : Int) + 1) ∧ fr.t 3 = .int .i64 ((r.take k).foldl min x)) ?_ ?_ ?_
  · simp [↓vD, vU, ↓vMd, vMu, VE.ev, VE.evs, retvs, tupOf, grab, vfill, vbsl, eqCells, eqCell, veqs, veqs1, vmnx, AV.isCell, AV.isUndef, Nat.reduceEqDiff, Nat.reduceAdd, Nat.reduceSub, Nat.reduceLeDiff, Nat.reduceLT, reduceIte, reduceCtorEq, Nat.reduceBEq, k_app, k_slc1]
  · rintro k fr hk hw hfr hd ⟨h4, h3⟩
    have hg := HS.out k hk
    obtain ⟨y, hy⟩ : ∃ y, r[k]! = y := ⟨_, rfl⟩
    rw [hy] at hg
    have hfold : (r.take (k + 1)).foldl min x = min ((r.take k).foldl min x) y := by
      rw [List.take_add_one, List.getElem?_eq_getElem hk, List.foldl_append, ← hy, getElem!_pos r k hk]; rfl
    have hw2 : IntKind.i64.wrap ((k : Int) + 1 + 1) = (k : Int) + 1 + 1 := wrap_i64 _ (by omega) (by omega)
    (repeat' (first | (simp (config := { maxDischargeDepth := 16 }) only [*, num, toNat_succ, vmin2, vX, Int.reduceLE, Int.reduceLT, Int.reduceGE, Int.reduceGT, Int.reduceBEq, Int.reduceBNe, Int.reduceAdd, Int.reduceSub, Int.reduceMul, Int.reduceNeg, ↓vD, vU, ↓vMd, vMu, VE.ev, VE.evs, retvs, tupOf, grab, vfill, vbsl, eqCells, eqCell, veqs, veqs1, vmnx, AV.isCell, AV.isUndef, Nat.reduceEqDiff, Nat.reduceAdd, Nat.reduceSub, Nat.reduceLeDiff, Nat.reduceLT, reduceIte, reduceCtorEq, Nat.reduceBEq]) | (simp (disch := first | assumption | omega | exact Seg.len _ | exact Vec.len _ | exact Leg.len _ | exact num_len _ | exact rowA_len _ | exact rowA_len | exact rowT_len _ | exact rowT_len | exact Seg.len | exact Vec.len | exact Leg.len | exact num_len | exact AV.slen _ _ | rfl) only [num, toNat_succ, vmin2, vP]) | ((with_reducible first | refine gsnd ?_ ?_ | refine csnd ?_ ?_ | refine gsd ?_ ?_ | refine csd ?_ ?_ | refine gsn ?_ ?_ | refine csn ?_ ?_ | refine gs ?_ ?_ | refine cs_ ?_ ?_) <;> intro _) | (with_reducible refine objQ_i (fun _ _ => ?_); (repeat (with_reducible refine imp_i (fun _ => ?_))))))
  · rintro fr hfr hd ⟨h4, h3⟩
    rw [List.take_length] at h3
    (repeat' (first | (simp (config := { maxDischargeDepth := 16 }) only [*, num, vX, Int.reduceLE, Int.reduceLT, Int.reduceGE, Int.reduceGT, Int.reduceBEq, Int.reduceBNe, Int.reduceAdd, Int.reduceSub, Int.reduceMul, Int.reduceNeg, ↓vD, vU, ↓vMd, vMu, VE.ev, VE.evs, retvs, tupOf, grab, vfill, vbsl, eqCells, eqCell, veqs, veqs1, vmnx, AV.isCell, AV.isUndef, Nat.reduceEqDiff, Nat.reduceAdd, Nat.reduceSub, Nat.reduceLeDiff, Nat.reduceLT, reduceIte, reduceCtorEq, Nat.reduceBEq]) | (simp (disch := first | assumption | omega | exact Seg.len _ | exact Vec.len _ | exact Leg.len _ | exact num_len _ | exact rowA_len _ | exact rowA_len | exact rowT_len _ | exact rowT_len | exact Seg.len | exact Vec.len | exact Leg.len | exact num_len | exact AV.slen _ _ | rfl) only [num, vP]) | ((with_reducible first | refine gsnd ?_ ?_ | refine csnd ?_ ?_ | refine gsd ?_ ?_ | refine csd ?_ ?_ | refine gsn ?_ ?_ | refine csn ?_ ?_ | refine gs ?_ ?_ | refine cs_ ?_ ?_) <;> intro _) | (with_reducible refine objQ_i (fun _ _ => ?_); (repeat (with_reducible refine imp_i (fun _ => ?_))))))
theorem MaxI_v (x : Int) (r : List Int) (hr : r.length ≤ 1000000000) (t : Tok) : VPure Try.prog 127 [.sl ((x :: r).map num) t] (num (r.foldl max x)) := by
  obtain ⟨l, hl⟩ : ∃ l, x :: r = l := ⟨_, rfl⟩
  have h0 : l.getD 0 default = x := by rw [← hl]; rfl
  have hs : ∀ k, k < r.length → l.getD (k + 1) default = r[k]! := fun k hk => by rw [← hl]; simp [List.getD_eq_getElem?_getD, List.getElem?_eq_getElem hk]
  have hlen : (l.length : Int) = r.length + 1 := by rw [← hl]; simp
  rw [hl]
  have HS := Hid.mk hs
  clear hl hs
  refine VPure.of v_slices_Max_int64_int64_ok (Nat.le_of_ble_eq_true rfl) (fun Z st => ?_)
  simp only [v_slices_Max_int64_int64, ↓vD, vU, ↓vMd, vMu, VE.ev, VE.evs, retvs, tupOf, grab, vfill, vbsl, eqCells, eqCell, veqs, veqs1, vmnx, AV.isCell, AV.isUndef, Nat.reduceEqDiff, Nat.reduceAdd, Nat.reduceSub, Nat.reduceLeDiff, Nat.reduceLT, reduceIte, reduceCtorEq, Nat.reduceBEq, k_app, k_slc1]
  (repeat' (first | (simp (config := { maxDischargeDepth := 16 }) only [*, num, vX, Int.reduceLE, Int.reduceLT, Int.reduceGE, Int.reduceGT, Int.reduceBEq, Int.reduceBNe, Int.reduceAdd, Int.reduceSub, Int.reduceMul, Int.reduceNeg, ↓vD, vU, ↓vMd, vMu, VE.ev, VE.evs, retvs, tupOf, grab, vfill, vbsl, eqCells, eqCell, veqs, veqs1, vmnx, AV.isCell, AV.isUndef, Nat.reduceEqDiff, Nat.reduceAdd, Nat.reduceSub, Nat.reduceLeDiff, Nat.reduceLT, reduceIte, reduceCtorEq, Nat.reduceBEq]) | (simp (disch := first | assumption | omega | exact Seg.len _ | exact Vec.len _ | exact Leg.len _ | exact num_len _ | exact rowA_len _ | exact rowA_len | exact rowT_len _ | exact rowT_len | exact Seg.len | exact Vec.len | exact Leg.len | exact num_len | exact AV.slen _ _ | rfl) only [num, vP]) | ((with_reducible first | refine gsnd ?_ ?_ | refine csnd ?_ ?_ | refine gsd ?_ ?_ | refine csd ?_ ?_ | refine gsn ?_ ?_ | refine csn ?_ ?_ | refine gs ?_ ?_ | refine cs_ ?_ ?_) <;> intro _) | (with_reducible refine objQ_i (fun _ _ => ?_); (repeat (with_reducible refine imp_i (fun _ => ?_))))))
  refine loopp_of (len := r.length) (by simp only [asgL, dsts, List.cons_append, List.nil_append, List.append_nil]; rfl) (by simp only [noR, Bool.and_true, Bool.and_false]; rfl) (by omega) (fun k fr => fr.t 4 = .int .i64 ((k : Int) + 1) ∧ fr.t 3 = .int .i64 ((r.take k).foldl max x)) ?_ ?_ ?_
  · simp [↓vD, vU, ↓vMd, vMu, VE.ev, VE.evs, retvs, tupOf, grab, vfill, vbsl, eqCells, eqCell, veqs, veqs1, vmnx, AV.isCell, AV.isUndef, Nat.reduceEqDiff, Nat.reduceAdd, Nat.reduceSub, Nat.reduceLeDiff, Nat.reduceLT, reduceIte, reduceCtorEq, Nat.reduceBEq, k_app, k_slc1]
  · rintro k fr hk hw hfr hd ⟨h4, h3⟩
    have hg := HS.out k hk
    obtain ⟨y, hy⟩ : ∃ y, r[k]! = y := ⟨_, rfl⟩
    rw [hy] at hg
    have hfold : (r.take (k + 1)).foldl max x = max ((r.take k).foldl max x) y := by
      rw [List.take_add_one, List.getElem?_eq_getElem hk, List.foldl_append, ← hy, getElem!_pos r k hk]; rfl
    have hw2 : IntKind.i64.wrap ((k : Int) + 1 + 1) = (k : Int) + 1 + 1 := wrap_i64 _ (by omega) (by omega)
    (repeat' (first | (simp (config := { maxDischargeDepth := 16 }) only [*, num, toNat_succ, vmax2, vX, Int.reduceLE, Int.reduceLT, Int.reduceGE, Int.reduceGT, Int.reduceBEq, Int.reduceBNe, Int.reduceAdd, Int.reduceSub, Int.reduceMul, Int.reduceNeg, ↓vD, vU, ↓vMd, vMu, VE.ev, VE.evs, retvs, tupOf, grab, vfill, vbsl, eqCells, eqCell, veqs, veqs1, vmnx, AV.isCell, AV.isUndef, Nat.reduceEqDiff, Nat.reduceAdd, Nat.reduceSub, Nat.reduceLeDiff, Nat.reduceLT, reduceIte, reduceCtorEq, Nat.reduceBEq]) | (simp (disch := first | assumption | omega | exact Seg.len _ | exact Vec.len _ | exact Leg.len _ | exact num_len _ | exact rowA_len _ | exact rowA_len | exact rowT_len _ | exact rowT_len | exact Seg.len | exact Vec.len | exact Leg.len | exact num_len | exact AV.slen _ _ | rfl) only [num, toNat_succ, vmax2, vP]) | ((with_reducible first | refine gsnd ?_ ?_ | refine csnd ?_ ?_ | refine gsd ?_ ?_ | refine csd ?_ ?_ | refine gsn ?_ ?_ | refine csn ?_ ?_ | refine gs ?_ ?_ | refine cs_ ?_ ?_) <;> intro _) | (with_reducible refine objQ_i (fun _ _ => ?_); (repeat (with_reducible refine imp_i (fun _ => ?_))))))
  · rintro fr hfr hd ⟨h4, h3⟩
    rw [List.take_length] at h3
    (repeat' (first | (simp (config := { maxDischargeDepth := 16 }) only [*, num, vX, Int.reduceLE, Int.reduceLT, Int.reduceGE, Int.reduceGT, Int.reduceBEq, Int.reduceBNe, Int.reduceAdd, Int.reduceSub, Int.reduceMul, Int.reduceNeg, ↓vD, vU, ↓vMd, vMu, VE.ev, VE.evs, retvs, tupOf, grab, vfill, vbsl, eqCells, eqCell, veqs, veqs1, vmnx, AV.isCell, AV.isUndef, Nat.reduceEqDiff, Nat.reduceAdd, Nat.reduceSub, Nat.reduceLeDiff, Nat.reduceLT, reduceIte, reduceCtorEq, Nat.reduceBEq]) | (simp (disch := first | assumption | omega | exact Seg.len _ | exact Vec.len _ | exact Leg.len _ | exact num_len _ | exact rowA_len _ | exact rowA_len | exact rowT_len _ | exact rowT_len | exact Seg.len | exact Vec.len | exact Leg.len | exact num_len | exact AV.slen _ _ | rfl) only [num, vP]) | ((with_reducible first | refine gsnd ?_ ?_ | refine csnd ?_ ?_ | refine gsd ?_ ?_ | refine csd ?_ ?_ | refine gsn ?_ ?_ | refine csn ?_ ?_ | refine gs ?_ ?_ | refine cs_ ?_ ?_) <;> intro _) | (with_reducible refine objQ_i (fun _ _ => ?_); (repeat (with_reducible refine imp_i (fun _ => ?_))))))
theorem in2_v (a z : Int) (t : Tok) : VPure Try.prog 118 [.sl [.int .i64 a, .int .i64 z] t] (.bool (decide (-1125899906842624 ≤ min a z) && decide (max a z ≤ 1125899906842624))) := by
  have h1 := MinI_v a [z] (by simp) t
  have h2 := MaxI_v a [z] (by simp) t
  simp only [List.map_cons, List.map_nil, num, List.foldl_cons, List.foldl_nil] at h1 h2
  refine VPure.of v_span_in_ok (Nat.le_of_ble_eq_true rfl) (fun Z st => ?_)
  simp only [v_span_in, ↓vD, vU, ↓vMd, vMu, VE.ev, VE.evs, retvs, tupOf, grab, vfill, vbsl, eqCells, eqCell, veqs, veqs1, vmnx, AV.isCell, AV.isUndef, Nat.reduceEqDiff, Nat.reduceAdd, Nat.reduceSub, Nat.reduceLeDiff, Nat.reduceLT, reduceIte, reduceCtorEq, Nat.reduceBEq, k_app, k_slc1]
  (repeat' (first | (simp (config := { maxDischargeDepth := 16 }) only [*, vX, Int.reduceLE, Int.reduceLT, Int.reduceGE, Int.reduceGT, Int.reduceBEq, Int.reduceBNe, Int.reduceAdd, Int.reduceSub, Int.reduceMul, Int.reduceNeg, ↓vD, vU, ↓vMd, vMu, VE.ev, VE.evs, retvs, tupOf, grab, vfill, vbsl, eqCells, eqCell, veqs, veqs1, vmnx, AV.isCell, AV.isUndef, Nat.reduceEqDiff, Nat.reduceAdd, Nat.reduceSub, Nat.reduceLeDiff, Nat.reduceLT, reduceIte, reduceCtorEq, Nat.reduceBEq]) | (simp (disch := first | assumption | omega | exact Seg.len _ | exact Vec.len _ | exact Leg.len _ | exact num_len _ | exact rowA_len _ | exact rowA_len | exact rowT_len _ | exact rowT_len | exact Seg.len | exact Vec.len | exact Leg.len | exact num_len | exact AV.slen _ _ | rfl) only [vP]) | ((with_reducible first | refine gsnd ?_ ?_ | refine csnd ?_ ?_ | refine gsd ?_ ?_ | refine csd ?_ ?_ | refine gsn ?_ ?_ | refine csn ?_ ?_ | refine gs ?_ ?_ | refine cs_ ?_ ?_) <;> intro _) | (with_reducible refine objQ_i (fun _ _ => ?_); (repeat (with_reducible refine imp_i (fun _ => ?_)))) | (with_reducible first | refine callH_use (h1) ?_ | refine pureQ_use (h1) ?_) | (with_reducible first | refine callH_use (h2) ?_ | refine pureQ_use (h2) ?_)))
  (all_goals (first | rfl | (simp_all; done) | (simp_all <;> omega)))
def runA (q : Vec × Int) : AV := .agg [.int .i64 q.1.m, .int .i64 q.1.c, .int .i64 q.2]
theorem runs_c (f : List Seg) (a z : Int) (t : Tok) : VPure Try.prog 119 [.sl (f.map Seg.a) t, num a, num z] (.clo 128 [] [.iptr (num a) 0, .iptr (.sl (f.map Seg.a) t) 0, .iptr (num z) 0]) := fun Z st => by
  have h : VCalls Try.prog Z 119 [.sl (f.map Seg.a) t, num a, num z] st (fun r s => ∃ bf ba bz, st.objs bf = none ∧ st.objs ba = none ∧ st.objs bz = none ∧ ¬ ba = bf ∧ ¬ bz = bf ∧ ¬ bz = ba ∧ r = .clo 128 [] [.ptr ba 0, .ptr bf 0, .ptr bz 0] ∧
      s = ((st.ins bf (.cells [.sl (f.map Seg.a) t])).ins ba (.cells [.int .i64 a])).ins bz (.cells [.int .i64 z])) := by
    refine VCalls.of v_span_runs_ok (Nat.le_of_ble_eq_true rfl) ?_
    simp only [v_span_runs, ↓vD, vU, ↓vMd, vMu, VE.ev, VE.evs, retvs, tupOf, grab, vfill, vbsl, eqCells, eqCell, veqs, veqs1, vmnx, AV.isCell, AV.isUndef, Nat.reduceEqDiff, Nat.reduceAdd, Nat.reduceSub, Nat.reduceLeDiff, Nat.reduceLT, reduceIte, reduceCtorEq, Nat.reduceBEq, k_app, k_slc1]
    (repeat' (first | (simp (config := { maxDischargeDepth := 16 }) only [*, num, vX, Int.reduceLE, Int.reduceLT, Int.reduceGE, Int.reduceGT, Int.reduceBEq, Int.reduceBNe, Int.reduceAdd, Int.reduceSub, Int.reduceMul, Int.reduceNeg, ↓vD, vU, ↓vMd, vMu, VE.ev, VE.evs, retvs, tupOf, grab, vfill, vbsl, eqCells, eqCell, veqs, veqs1, vmnx, AV.isCell, AV.isUndef, Nat.reduceEqDiff, Nat.reduceAdd, Nat.reduceSub, Nat.reduceLeDiff, Nat.reduceLT, reduceIte, reduceCtorEq, Nat.reduceBEq]) | (simp (disch := first | assumption | omega | exact Seg.len _ | exact Vec.len _ | exact Leg.len _ | exact num_len _ | exact rowA_len _ | exact rowA_len | exact rowT_len _ | exact rowT_len | exact Seg.len | exact Vec.len | exact Leg.len | exact num_len | exact AV.slen _ _ | rfl) only [num, vP]) | ((with_reducible first | refine gsnd ?_ ?_ | refine csnd ?_ ?_ | refine gsd ?_ ?_ | refine csd ?_ ?_ | refine gsn ?_ ?_ | refine csn ?_ ?_ | refine gs ?_ ?_ | refine cs_ ?_ ?_) <;> intro _) | (with_reducible refine objQ_i (fun _ _ => ?_); (repeat (with_reducible refine imp_i (fun _ => ?_))))))
    rename_i bf hf ba ha n1 n2 bz hz n3 n4 n5 n6
    exact ⟨_, St.le.refl _, bf, ba, bz, hf, ha, hz, n1, n3, n5, rfl, rfl⟩
  refine h.wk ?_
  rintro _ _ ⟨bf, ba, bz, hf, ha, hz, n1, n2, n3, rfl, rfl⟩
  have n1' : ¬ bf = ba := fun e => n1 e.symm
  have n2' : ¬ bf = bz := fun e => n2 e.symm
  have n3' : ¬ ba = bz := fun e => n3 e.symm
  (refine ⟨_, st, (Wk.fz _ (b := ba) (x := num a) (by first | (simp only [St.ins, St.del, *, if_true, if_false, eq_self, not_false_eq_true, ite_true, ite_false]; first | done | rfl) | (simp [St.ins, St.del, *]; done) | (simp [St.ins, St.del, *]; rfl)) (by first | rfl | simp [okEl, AV.cells, AV.isCell]) (by first | exact Nat.zero_lt_succ _ | simp [AV.cells]) _).trans ((Wk.fz _ (b := bf) (x := .sl (f.map Seg.a) t) (by first | (simp only [St.ins, St.del, *, if_true, if_false, eq_self, not_false_eq_true, ite_true, ite_false]; first | done | rfl) | (simp [St.ins, St.del, *]; done) | (simp [St.ins, St.del, *]; rfl)) (by first | rfl | simp [okEl, AV.cells, AV.isCell]) (by first | exact Nat.zero_lt_succ _ | simp [AV.cells]) _).trans ((Wk.fz _ (b := bz) (x := num z) (by first | (simp only [St.ins, St.del, *, if_true, if_false, eq_self, not_false_eq_true, ite_true, ite_false]; first | done | rfl) | (simp [St.ins, St.del, *]; done) | (simp [St.ins, St.del, *]; rfl)) (by first | rfl | simp [okEl, AV.cells, AV.isCell]) (by first | exact Nat.zero_lt_succ _ | simp [AV.cells]) _).trans (Wk.le (by (refine ⟨fun i o e => ?_, fun _ h => h⟩; revert e; simp only [St.ins, St.del, add_objs, kill_objs]; (repeat' split); all_goals (first | exact id | (intros; contradiction) | (intros; subst_vars; contradiction) | (intros; simp_all; done) | (intros; subst_vars; simp_all; done)))) _))), ?_⟩; simp only [AV.sub, AV.subL, *, if_true, if_false, eq_self, ite_true, ite_false])
  try exact ⟨trivial, trivial⟩
theorem runs_it (f : List Seg) (hn : f.length ≤ 1000000000) (a z : Int) (ha : -1125899906842624 ≤ a) (hz : z ≤ 1125899906842624) (haz : a < z) (t : Tok) : VIter Try.prog 128 [] [.iptr (num a) 0, .iptr (.sl (f.map Seg.a) t) 0, .iptr (num z) 0] ((runsF f a z).map fun b => [runA b]) := by
  intro Y l I E S0 h0 hy
  obtain ⟨L, hL⟩ : ∃ L, runsF f a z = L := ⟨_, rfl⟩
  simp only [hL, List.length_map, List.getElem_map] at hy ⊢
  have hAt := At_v f (by omega) t a
  obtain ⟨u0, hu0⟩ : ∃ u, atF f a = u := ⟨_, rfl⟩
  rw [hu0] at hAt
  have HL : Hid (L = runsGo a z f a u0) := ⟨by rw [← hL, ← hu0]; rfl⟩
  have HY : Hid (∀ k it r, L.drop k = it :: r → ∀ S, I k S → VYield Try.prog Y l [runA it] S (YY I E k)) := ⟨fun k it r h => by
    obtain ⟨hk, rfl, _⟩ := drop_cons h
    exact hy k hk⟩
  clear hL hu0 hy
  refine VCalls.of v_span_runs_1_ok (Nat.le_of_ble_eq_true rfl) ?_
  simp only [v_span_runs_1, List.nil_append, List.cons_append, ↓vD, vU, ↓vMd, vMu, VE.ev, VE.evs, retvs, tupOf, grab, vfill, vbsl, eqCells, eqCell, veqs, veqs1, vmnx, AV.isCell, AV.isUndef, Nat.reduceEqDiff, Nat.reduceAdd, Nat.reduceSub, Nat.reduceLeDiff, Nat.reduceLT, reduceIte, reduceCtorEq, Nat.reduceBEq, k_app, k_slc1]
  (repeat' (first | (simp (config := { maxDischargeDepth := 16 }) only [*, num, vX, Int.reduceLE, Int.reduceLT, Int.reduceGE, Int.reduceGT, Int.reduceBEq, Int.reduceBNe, Int.reduceAdd, Int.reduceSub, Int.reduceMul, Int.reduceNeg, ↓vD, vU, ↓vMd, vMu, VE.ev, VE.evs, retvs, tupOf, grab, vfill, vbsl, eqCells, eqCell, veqs, veqs1, vmnx, AV.isCell, AV.isUndef, Nat.reduceEqDiff, Nat.reduceAdd, Nat.reduceSub, Nat.reduceLeDiff, Nat.reduceLT, reduceIte, reduceCtorEq, Nat.reduceBEq]) | (simp (disch := first | assumption | omega | exact Seg.len _ | exact Vec.len _ | exact Leg.len _ | exact num_len _ | exact rowA_len _ | exact rowA_len | exact rowT_len _ | exact rowT_len | exact Seg.len | exact Vec.len | exact Leg.len | exact num_len | exact AV.slen _ _ | rfl) only [num, vP]) | ((with_reducible first | refine gsnd ?_ ?_ | refine csnd ?_ ?_ | refine gsd ?_ ?_ | refine csd ?_ ?_ | refine gsn ?_ ?_ | refine csn ?_ ?_ | refine gs ?_ ?_ | refine cs_ ?_ ?_) <;> intro _) | (with_reducible refine objQ_i (fun _ _ => ?_); (repeat (with_reducible refine imp_i (fun _ => ?_)))) | (with_reducible first | refine callH_use (hAt) ?_ | refine pureQ_use (hAt) ?_)))
  rename_i b6 h6
  refine loopf_of (len := f.length) (by simp only [asgL, dsts, List.cons_append, List.nil_append, List.append_nil]; rfl) (by simp only [noR, Bool.and_true, Bool.and_false]; rfl) (by omega) (fun k fr s => ∃ (j : Nat) (p : Int) (u : Vec) (S : St), s = S.ins b6 (.cells [.int .i64 u.m, .int .i64 u.c])
    ∧ fr.t 15 = .int .i64 k ∧ fr.t 5 = .int .i64 p ∧ I j S ∧ S.objs b6 = none ∧ j ≤ L.length ∧ (a ≤ p ∧ p ≤ z) ∧ Hid (L.drop j = runsGo a z (f.drop k) p u)) ?_ ?_ ?_
  · exact ⟨0, a, u0, S0, rfl, by simp [↓vD, vU, ↓vMd, vMu, VE.ev, VE.evs, retvs, tupOf, grab, vfill, vbsl, eqCells, eqCell, veqs, veqs1, vmnx, AV.isCell, AV.isUndef, Nat.reduceEqDiff, Nat.reduceAdd, Nat.reduceSub, Nat.reduceLeDiff, Nat.reduceLT, reduceIte, reduceCtorEq, Nat.reduceBEq, k_app, k_slc1], by simp [↓vD, vU, ↓vMd, vMu, VE.ev, VE.evs, retvs, tupOf, grab, vfill, vbsl, eqCells, eqCell, veqs, veqs1, vmnx, AV.isCell, AV.isUndef, Nat.reduceEqDiff, Nat.reduceAdd, Nat.reduceSub, Nat.reduceLeDiff, Nat.reduceLT, reduceIte, reduceCtorEq, Nat.reduceBEq, k_app, k_slc1], h0, h6, by omega, by omega, ⟨by rw [HL.out]; rfl⟩⟩
  · rintro k fr s hk hwr hfr hd ⟨j, p, u, S, rfl, h15, h5, hI, hS6, hj, hp, HK⟩
    obtain ⟨x, hx⟩ : ∃ x, f[k] = x := ⟨_, rfl⟩
    have hdr : f.drop k = x :: f.drop (k + 1) := by rw [List.drop_eq_getElem_cons hk, hx]
    have hK := HK.out
    rw [hdr, runsGo] at hK
    by_cases hskip : x.t ≤ a ∨ z ≤ x.t
    · have HN : Hid (L.drop j = runsGo a z (f.drop (k + 1)) p u) := ⟨by rw [hK, if_pos hskip]⟩
      clear hK hdr HK
      (repeat' (first | (simp (config := { maxDischargeDepth := 16 }) only [*, num, Seg.a, vX, Int.reduceLE, Int.reduceLT, Int.reduceGE, Int.reduceGT, Int.reduceBEq, Int.reduceBNe, Int.reduceAdd, Int.reduceSub, Int.reduceMul, Int.reduceNeg, ↓vD, vU, ↓vMd, vMu, VE.ev, VE.evs, retvs, tupOf, grab, vfill, vbsl, eqCells, eqCell, veqs, veqs1, vmnx, AV.isCell, AV.isUndef, Nat.reduceEqDiff, Nat.reduceAdd, Nat.reduceSub, Nat.reduceLeDiff, Nat.reduceLT, reduceIte, reduceCtorEq, Nat.reduceBEq]) | (simp (disch := first | assumption | omega | exact Seg.len _ | exact Vec.len _ | exact Leg.len _ | exact num_len _ | exact rowA_len _ | exact rowA_len | exact rowT_len _ | exact rowT_len | exact Seg.len | exact Vec.len | exact Leg.len | exact num_len | exact AV.slen _ _ | rfl) only [num, Seg.a, vP]) | ((with_reducible first | refine gsnd ?_ ?_ | refine csnd ?_ ?_ | refine gsd ?_ ?_ | refine csd ?_ ?_ | refine gsn ?_ ?_ | refine csn ?_ ?_ | refine gs ?_ ?_ | refine cs_ ?_ ?_) <;> intro _) | (with_reducible refine objQ_i (fun _ _ => ?_); (repeat (with_reducible refine imp_i (fun _ => ?_))))))
      all_goals first | exact ⟨_, by (refine ⟨fun i o e => ?_, fun _ h => h⟩; revert e; simp only [St.ins, St.del, add_objs, kill_objs]; (repeat' split); all_goals (first | exact id | (intros; contradiction) | (intros; subst_vars; contradiction) | (intros; simp_all; done) | (intros; subst_vars; simp_all; done))), j, p, u, S, rfl, rfl, hI, hS6, hj, hp, HN⟩ | omega
    · rw [if_neg hskip] at hK
      have HN : Hid (L.drop j = (u, x.t - p) :: runsGo a z (f.drop (k + 1)) x.t x.v) := ⟨hK⟩
      clear hK hdr HK
      (repeat' (first | (simp (config := { maxDischargeDepth := 16 }) only [*, num, Seg.a, vX, Int.reduceLE, Int.reduceLT, Int.reduceGE, Int.reduceGT, Int.reduceBEq, Int.reduceBNe, Int.reduceAdd, Int.reduceSub, Int.reduceMul, Int.reduceNeg, ↓vD, vU, ↓vMd, vMu, VE.ev, VE.evs, retvs, tupOf, grab, vfill, vbsl, eqCells, eqCell, veqs, veqs1, vmnx, AV.isCell, AV.isUndef, Nat.reduceEqDiff, Nat.reduceAdd, Nat.reduceSub, Nat.reduceLeDiff, Nat.reduceLT, reduceIte, reduceCtorEq, Nat.reduceBEq]) | (simp (disch := first | assumption | omega | exact Seg.len _ | exact Vec.len _ | exact Leg.len _ | exact num_len _ | exact rowA_len _ | exact rowA_len | exact rowT_len _ | exact rowT_len | exact Seg.len | exact Vec.len | exact Leg.len | exact num_len | exact AV.slen _ _ | rfl) only [num, Seg.a, vP]) | ((with_reducible first | refine gsnd ?_ ?_ | refine csnd ?_ ?_ | refine gsd ?_ ?_ | refine csd ?_ ?_ | refine gsn ?_ ?_ | refine csn ?_ ?_ | refine gs ?_ ?_ | refine cs_ ?_ ?_) <;> intro _) | (with_reducible refine objQ_i (fun _ _ => ?_); (repeat (with_reducible refine imp_i (fun _ => ?_))))))
      rename_i b8 h8 n86 n68
      refine yieldH_then (((HY.out j _ _ HN.out S hI).frame b6 _ hS6).frame b8 _ (by simp only [ins_objs, kill_objs, add_objs, *, if_false, if_true, not_false_eq_true, ite_some_none, and_self, and_true, true_and])) rfl ?_
      rintro _ _ ⟨_, ⟨s0, hyy, q6, rfl⟩, q8, rfl⟩
      obtain ⟨hj2, _, hd2⟩ := drop_cons HN.out
      have q8' : s0.objs b8 = none := by simpa only [ins_objs, n86, if_false] using q8
      rcases hyy with ⟨rfl, S', hI', hle'⟩ | ⟨rfl, S', hE', hle'⟩
      · have HN2 : Hid (L.drop (j + 1) = runsGo a z (f.drop (k + 1)) x.t x.v) := ⟨hd2⟩
        clear HN hd2
        (repeat' (first | (simp (config := { maxDischargeDepth := 16 }) only [*, num, Seg.a, vX, Int.reduceLE, Int.reduceLT, Int.reduceGE, Int.reduceGT, Int.reduceBEq, Int.reduceBNe, Int.reduceAdd, Int.reduceSub, Int.reduceMul, Int.reduceNeg, ↓vD, vU, ↓vMd, vMu, VE.ev, VE.evs, retvs, tupOf, grab, vfill, vbsl, eqCells, eqCell, veqs, veqs1, vmnx, AV.isCell, AV.isUndef, Nat.reduceEqDiff, Nat.reduceAdd, Nat.reduceSub, Nat.reduceLeDiff, Nat.reduceLT, reduceIte, reduceCtorEq, Nat.reduceBEq]) | (simp (disch := first | assumption | omega | exact Seg.len _ | exact Vec.len _ | exact Leg.len _ | exact num_len _ | exact rowA_len _ | exact rowA_len | exact rowT_len _ | exact rowT_len | exact Seg.len | exact Vec.len | exact Leg.len | exact num_len | exact AV.slen _ _ | rfl) only [num, Seg.a, vP]) | ((with_reducible first | refine gsnd ?_ ?_ | refine csnd ?_ ?_ | refine gsd ?_ ?_ | refine csd ?_ ?_ | refine gsn ?_ ?_ | refine csn ?_ ?_ | refine gs ?_ ?_ | refine cs_ ?_ ?_) <;> intro _) | (with_reducible refine objQ_i (fun _ _ => ?_); (repeat (with_reducible refine imp_i (fun _ => ?_))))))
        exact ⟨_, (St.le.ins hle' b6 _).trans (by (refine ⟨fun i o e => ?_, fun _ h => h⟩; revert e; simp only [St.ins, St.del, add_objs, kill_objs]; (repeat' split); all_goals (first | exact id | (intros; contradiction) | (intros; subst_vars; contradiction) | (intros; simp_all; done) | (intros; subst_vars; simp_all; done)))), j + 1, x.t, x.v, S', rfl, rfl, hI', hle'.none q6, by omega, by omega, HN2⟩
      · (repeat' (first | (simp (config := { maxDischargeDepth := 16 }) only [*, num, Seg.a, vX, Int.reduceLE, Int.reduceLT, Int.reduceGE, Int.reduceGT, Int.reduceBEq, Int.reduceBNe, Int.reduceAdd, Int.reduceSub, Int.reduceMul, Int.reduceNeg, ↓vD, vU, ↓vMd, vMu, VE.ev, VE.evs, retvs, tupOf, grab, vfill, vbsl, eqCells, eqCell, veqs, veqs1, vmnx, AV.isCell, AV.isUndef, Nat.reduceEqDiff, Nat.reduceAdd, Nat.reduceSub, Nat.reduceLeDiff, Nat.reduceLT, reduceIte, reduceCtorEq, Nat.reduceBEq]) | (simp (disch := first | assumption | omega | exact Seg.len _ | exact Vec.len _ | exact Leg.len _ | exact num_len _ | exact rowA_len _ | exact rowA_len | exact rowT_len _ | exact rowT_len | exact Seg.len | exact Vec.len | exact Leg.len | exact num_len | exact AV.slen _ _ | rfl) only [num, Seg.a, vP]) | ((with_reducible first | refine gsnd ?_ ?_ | refine csnd ?_ ?_ | refine gsd ?_ ?_ | refine csd ?_ ?_ | refine gsn ?_ ?_ | refine csn ?_ ?_ | refine gs ?_ ?_ | refine cs_ ?_ ?_) <;> intro _) | (with_reducible refine objQ_i (fun _ _ => ?_); (repeat (with_reducible refine imp_i (fun _ => ?_))))))
        exact ⟨_, St.le.refl _, S', .inr hE', hle'.trans (by (refine ⟨fun i o e => ?_, fun _ h => h⟩; revert e; simp only [St.ins, St.del, add_objs, kill_objs]; (repeat' split); all_goals (first | exact id | (intros; contradiction) | (intros; subst_vars; contradiction) | (intros; simp_all; done) | (intros; subst_vars; simp_all; done))))⟩
  · rintro fr s hfr hd ⟨j, p, u, S, rfl, h15, h5, hI, hS6, hj, hp, HK⟩
    rw [List.drop_length, runsGo] at HK
    (repeat' (first | (simp (config := { maxDischargeDepth := 16 }) only [*, num, Seg.a, vX, Int.reduceLE, Int.reduceLT, Int.reduceGE, Int.reduceGT, Int.reduceBEq, Int.reduceBNe, Int.reduceAdd, Int.reduceSub, Int.reduceMul, Int.reduceNeg, ↓vD, vU, ↓vMd, vMu, VE.ev, VE.evs, retvs, tupOf, grab, vfill, vbsl, eqCells, eqCell, veqs, veqs1, vmnx, AV.isCell, AV.isUndef, Nat.reduceEqDiff, Nat.reduceAdd, Nat.reduceSub, Nat.reduceLeDiff, Nat.reduceLT, reduceIte, reduceCtorEq, Nat.reduceBEq]) | (simp (disch := first | assumption | omega | exact Seg.len _ | exact Vec.len _ | exact Leg.len _ | exact num_len _ | exact rowA_len _ | exact rowA_len | exact rowT_len _ | exact rowT_len | exact Seg.len | exact Vec.len | exact Leg.len | exact num_len | exact AV.slen _ _ | rfl) only [num, Seg.a, vP]) | ((with_reducible first | refine gsnd ?_ ?_ | refine csnd ?_ ?_ | refine gsd ?_ ?_ | refine csd ?_ ?_ | refine gsn ?_ ?_ | refine csn ?_ ?_ | refine gs ?_ ?_ | refine cs_ ?_ ?_) <;> intro _) | (with_reducible refine objQ_i (fun _ _ => ?_); (repeat (with_reducible refine imp_i (fun _ => ?_))))))
    refine yieldH_then ((HY.out j _ _ HK.out S hI).frame b6 _ hS6) rfl ?_
    rintro _ _ ⟨s0, hyy, q6, rfl⟩
    obtain ⟨hj2, _, hd2⟩ := drop_cons HK.out
    have hjl : j + 1 = L.length := by have := List.drop_eq_nil_iff.1 hd2; omega
    rcases hyy with ⟨rfl, S', hI', hle'⟩ | ⟨rfl, S', hE', hle'⟩
    · rw [hjl] at hI'
      (repeat' (first | (simp (config := { maxDischargeDepth := 16 }) only [*, num, Seg.a, vX, Int.reduceLE, Int.reduceLT, Int.reduceGE, Int.reduceGT, Int.reduceBEq, Int.reduceBNe, Int.reduceAdd, Int.reduceSub, Int.reduceMul, Int.reduceNeg, ↓vD, vU, ↓vMd, vMu, VE.ev, VE.evs, retvs, tupOf, grab, vfill, vbsl, eqCells, eqCell, veqs, veqs1, vmnx, AV.isCell, AV.isUndef, Nat.reduceEqDiff, Nat.reduceAdd, Nat.reduceSub, Nat.reduceLeDiff, Nat.reduceLT, reduceIte, reduceCtorEq, Nat.reduceBEq]) | (simp (disch := first | assumption | omega | exact Seg.len _ | exact Vec.len _ | exact Leg.len _ | exact num_len _ | exact rowA_len _ | exact rowA_len | exact rowT_len _ | exact rowT_len | exact Seg.len | exact Vec.len | exact Leg.len | exact num_len | exact AV.slen _ _ | rfl) only [num, Seg.a, vP]) | ((with_reducible first | refine gsnd ?_ ?_ | refine csnd ?_ ?_ | refine gsd ?_ ?_ | refine csd ?_ ?_ | refine gsn ?_ ?_ | refine csn ?_ ?_ | refine gs ?_ ?_ | refine cs_ ?_ ?_) <;> intro _) | (with_reducible refine objQ_i (fun _ _ => ?_); (repeat (with_reducible refine imp_i (fun _ => ?_))))))
      exact ⟨_, St.le.refl _, S', .inl hI', hle'.trans (by (refine ⟨fun i o e => ?_, fun _ h => h⟩; revert e; simp only [St.ins, St.del, add_objs, kill_objs]; (repeat' split); all_goals (first | exact id | (intros; contradiction) | (intros; subst_vars; contradiction) | (intros; simp_all; done) | (intros; subst_vars; simp_all; done))))⟩
    · (repeat' (first | (simp (config := { maxDischargeDepth := 16 }) only [*, num, Seg.a, vX, Int.reduceLE, Int.reduceLT, Int.reduceGE, Int.reduceGT, Int.reduceBEq, Int.reduceBNe, Int.reduceAdd, Int.reduceSub, Int.reduceMul, Int.reduceNeg, ↓vD, vU, ↓vMd, vMu, VE.ev, VE.evs, retvs, tupOf, grab, vfill, vbsl, eqCells, eqCell, veqs, veqs1, vmnx, AV.isCell, AV.isUndef, Nat.reduceEqDiff, Nat.reduceAdd, Nat.reduceSub, Nat.reduceLeDiff, Nat.reduceLT, reduceIte, reduceCtorEq, Nat.reduceBEq]) | (simp (disch := first | assumption | omega | exact Seg.len _ | exact Vec.len _ | exact Leg.len _ | exact num_len _ | exact rowA_len _ | exact rowA_len | exact rowT_len _ | exact rowT_len | exact Seg.len | exact Vec.len | exact Leg.len | exact num_len | exact AV.slen _ _ | rfl) only [num, Seg.a, vP]) | ((with_reducible first | refine gsnd ?_ ?_ | refine csnd ?_ ?_ | refine gsd ?_ ?_ | refine csd ?_ ?_ | refine gsn ?_ ?_ | refine csn ?_ ?_ | refine gs ?_ ?_ | refine cs_ ?_ ?_) <;> intro _) | (with_reducible refine objQ_i (fun _ _ => ?_); (repeat (with_reducible refine imp_i (fun _ => ?_))))))
      exact ⟨_, St.le.refl _, S', .inr hE', hle'.trans (by (refine ⟨fun i o e => ?_, fun _ h => h⟩; revert e; simp only [St.ins, St.del, add_objs, kill_objs]; (repeat' split); all_goals (first | exact id | (intros; contradiction) | (intros; subst_vars; contradiction) | (intros; simp_all; done) | (intros; subst_vars; simp_all; done))))⟩
end Go.Proofs.Ytglekfgoadehbaa.V
end
section
set_option linter.unusedSimpArgs false
set_option linter.unusedVariables false
/- What the package span's functions compute: over, least, Low. -/
namespace Go.Proofs.Ytglekfgoadehbaa.V
open Go Go.Proofs
set_option maxRecDepth 100000
set_option maxHeartbeats 4000000
theorem VCalls.z {P : Program} {Z Y : Im} {f : Nat} {args : List AV} {st : St} {K : AV → St → Prop} (h : VCalls P Z f args st K) (hz : Z.le Y) : VCalls P Y f args st K :=
  ⟨h.1, fun B I W vs hy hr ha => h.2 B I W vs (hz.trans hy) hr ha⟩
theorem VCalls.sm {P : Program} {Z : Im} {f : Nat} {args : List AV} {st : St} {K : AV → St → Prop} (h : VCalls P Z f args st (fun r s => ∃ S', K r S' ∧ S'.le s)) : VCalls P Z f args st K :=
  h.wk (fun v _ ⟨S', hk, hle⟩ => ⟨v, S', Wk.le hle _, hk⟩)
theorem over_c {Z : Im} {st : St} (f : List Seg) (hn : f.length ≤ 1000000) (a z : Int) (t : Tok) {g : Nat} {fs cs : List AV} (I : Nat → St → Prop) (h0 : I 0 st)
    (hh : overE f a z = 0 → ∀ k (hk : k < (runsF f a z).length) S, I k S → VCalls Try.prog Z g (fs ++ [runA (runsF f a z)[k]] ++ cs) S (fun _ s => I (k + 1) s)) :
    VCalls Try.prog Z 101 [.sl (f.map Seg.a) t, num a, num z, .clo g fs cs] st (fun r s => r = num (overE f a z) ∧ (if overE f a z = 0 then I (runsF f a z).length s else I 0 s)) := by
  refine VCalls.sm ?_
  have hmay := May_F f (by omega) t
  obtain ⟨mf, hmf⟩ : ∃ m, mayF f = m := ⟨_, rfl⟩
  rw [hmf] at hmay
  have hin := in2_v a z
  cases mf with
  | false =>
    have e : overE f a z = 5 := by unfold overE; rw [hmf]; rfl
    simp only [e, if_false, Int.reduceEq]
    clear hmf e hh
    refine VCalls.of v_span_over_ok (Nat.le_of_ble_eq_true rfl) ?_
    simp only [v_span_over, ↓vD, vU, ↓vMd, vMu, VE.ev, VE.evs, retvs, tupOf, grab, vfill, vbsl, eqCells, eqCell, veqs, veqs1, vmnx, AV.isCell, AV.isUndef, Nat.reduceEqDiff, Nat.reduceAdd, Nat.reduceSub, Nat.reduceLeDiff, Nat.reduceLT, reduceIte, reduceCtorEq, Nat.reduceBEq, k_app, k_slc1]
    (repeat' (first | (simp (config := { maxDischargeDepth := 16 }) only [*, num, vX, Int.reduceLE, Int.reduceLT, Int.reduceGE, Int.reduceGT, Int.reduceBEq, Int.reduceBNe, Int.reduceAdd, Int.reduceSub, Int.reduceMul, Int.reduceNeg, ↓vD, vU, ↓vMd, vMu, VE.ev, VE.evs, retvs, tupOf, grab, vfill, vbsl, eqCells, eqCell, veqs, veqs1, vmnx, AV.isCell, AV.isUndef, Nat.reduceEqDiff, Nat.reduceAdd, Nat.reduceSub, Nat.reduceLeDiff, Nat.reduceLT, reduceIte, reduceCtorEq, Nat.reduceBEq]) | (simp (disch := first | assumption | omega | exact Seg.len _ | exact Vec.len _ | exact Leg.len _ | exact num_len _ | exact rowA_len _ | exact rowA_len | exact rowT_len _ | exact rowT_len | exact Seg.len | exact Vec.len | exact Leg.len | exact num_len | exact AV.slen _ _ | rfl) only [num, vP]) | ((with_reducible first | refine gsnd ?_ ?_ | refine csnd ?_ ?_ | refine gsd ?_ ?_ | refine csd ?_ ?_ | refine gsn ?_ ?_ | refine csn ?_ ?_ | refine gs ?_ ?_ | refine cs_ ?_ ?_) <;> intro _) | (with_reducible refine objQ_i (fun _ _ => ?_); (repeat (with_reducible refine imp_i (fun _ => ?_)))) | (with_reducible first | refine callH_use (hmay) ?_ | refine pureQ_use (hmay) ?_) | (with_reducible first | refine callH_use (hin _) ?_ | refine pureQ_use (hin _) ?_)))
    exact ⟨_, St.le.refl _, st, h0, by (refine ⟨fun i o e => ?_, fun _ h => h⟩; revert e; simp only [St.ins, St.del, add_objs, kill_objs]; (repeat' split); all_goals (first | exact id | (intros; contradiction) | (intros; subst_vars; contradiction) | (intros; simp_all; done) | (intros; subst_vars; simp_all; done)))⟩
  | true =>
  by_cases hc : -1125899906842624 ≤ min a z ∧ max a z ≤ 1125899906842624 ∧ a < z ∧ z - a ≤ 8000
  case neg =>
    have e : overE f a z = 2 := by unfold overE; rw [hmf, if_pos rfl, if_neg hc]
    simp only [e, if_false, Int.reduceEq]
    clear hmf e hh
    by_cases c1 : -1125899906842624 ≤ min a z
    case neg =>
      refine VCalls.of v_span_over_ok (Nat.le_of_ble_eq_true rfl) ?_
      simp only [v_span_over, ↓vD, vU, ↓vMd, vMu, VE.ev, VE.evs, retvs, tupOf, grab, vfill, vbsl, eqCells, eqCell, veqs, veqs1, vmnx, AV.isCell, AV.isUndef, Nat.reduceEqDiff, Nat.reduceAdd, Nat.reduceSub, Nat.reduceLeDiff, Nat.reduceLT, reduceIte, reduceCtorEq, Nat.reduceBEq, k_app, k_slc1]
      (repeat' (first | (simp (config := { maxDischargeDepth := 16 }) only [*, num, decide_false, decide_true, Bool.false_and, Bool.true_and, Bool.and_false, Bool.not_false, Bool.not_true, vX, Int.reduceLE, Int.reduceLT, Int.reduceGE, Int.reduceGT, Int.reduceBEq, Int.reduceBNe, Int.reduceAdd, Int.reduceSub, Int.reduceMul, Int.reduceNeg, ↓vD, vU, ↓vMd, vMu, VE.ev, VE.evs, retvs, tupOf, grab, vfill, vbsl, eqCells, eqCell, veqs, veqs1, vmnx, AV.isCell, AV.isUndef, Nat.reduceEqDiff, Nat.reduceAdd, Nat.reduceSub, Nat.reduceLeDiff, Nat.reduceLT, reduceIte, reduceCtorEq, Nat.reduceBEq]) | (simp (disch := first | assumption | omega | exact Seg.len _ | exact Vec.len _ | exact Leg.len _ | exact num_len _ | exact rowA_len _ | exact rowA_len | exact rowT_len _ | exact rowT_len | exact Seg.len | exact Vec.len | exact Leg.len | exact num_len | exact AV.slen _ _ | rfl) only [num, decide_false, decide_true, Bool.false_and, Bool.true_and, Bool.and_false, Bool.not_false, Bool.not_true, vP]) | ((with_reducible first | refine gsnd ?_ ?_ | refine csnd ?_ ?_ | refine gsd ?_ ?_ | refine csd ?_ ?_ | refine gsn ?_ ?_ | refine csn ?_ ?_ | refine gs ?_ ?_ | refine cs_ ?_ ?_) <;> intro _) | (with_reducible refine objQ_i (fun _ _ => ?_); (repeat (with_reducible refine imp_i (fun _ => ?_)))) | (with_reducible first | refine callH_use (hmay) ?_ | refine pureQ_use (hmay) ?_) | (with_reducible first | refine callH_use (hin _) ?_ | refine pureQ_use (hin _) ?_)))
      exact ⟨_, St.le.refl _, st, h0, by (refine ⟨fun i o e => ?_, fun _ h => h⟩; revert e; simp only [St.ins, St.del, add_objs, kill_objs]; (repeat' split); all_goals (first | exact id | (intros; contradiction) | (intros; subst_vars; contradiction) | (intros; simp_all; done) | (intros; subst_vars; simp_all; done)))⟩
    by_cases c2 : max a z ≤ 1125899906842624
    case neg =>
      refine VCalls.of v_span_over_ok (Nat.le_of_ble_eq_true rfl) ?_
      simp only [v_span_over, ↓vD, vU, ↓vMd, vMu, VE.ev, VE.evs, retvs, tupOf, grab, vfill, vbsl, eqCells, eqCell, veqs, veqs1, vmnx, AV.isCell, AV.isUndef, Nat.reduceEqDiff, Nat.reduceAdd, Nat.reduceSub, Nat.reduceLeDiff, Nat.reduceLT, reduceIte, reduceCtorEq, Nat.reduceBEq, k_app, k_slc1]
      (repeat' (first | (simp (config := { maxDischargeDepth := 16 }) only [*, num, decide_false, decide_true, Bool.false_and, Bool.true_and, Bool.and_false, Bool.not_false, Bool.not_true, vX, Int.reduceLE, Int.reduceLT, Int.reduceGE, Int.reduceGT, Int.reduceBEq, Int.reduceBNe, Int.reduceAdd, Int.reduceSub, Int.reduceMul, Int.reduceNeg, ↓vD, vU, ↓vMd, vMu, VE.ev, VE.evs, retvs, tupOf, grab, vfill, vbsl, eqCells, eqCell, veqs, veqs1, vmnx, AV.isCell, AV.isUndef, Nat.reduceEqDiff, Nat.reduceAdd, Nat.reduceSub, Nat.reduceLeDiff, Nat.reduceLT, reduceIte, reduceCtorEq, Nat.reduceBEq]) | (simp (disch := first | assumption | omega | exact Seg.len _ | exact Vec.len _ | exact Leg.len _ | exact num_len _ | exact rowA_len _ | exact rowA_len | exact rowT_len _ | exact rowT_len | exact Seg.len | exact Vec.len | exact Leg.len | exact num_len | exact AV.slen _ _ | rfl) only [num, decide_false, decide_true, Bool.false_and, Bool.true_and, Bool.and_false, Bool.not_false, Bool.not_true, vP]) | ((with_reducible first | refine gsnd ?_ ?_ | refine csnd ?_ ?_ | refine gsd ?_ ?_ | refine csd ?_ ?_ | refine gsn ?_ ?_ | refine csn ?_ ?_ | refine gs ?_ ?_ | refine cs_ ?_ ?_) <;> intro _) | (with_reducible refine objQ_i (fun _ _ => ?_); (repeat (with_reducible refine imp_i (fun _ => ?_)))) | (with_reducible first | refine callH_use (hmay) ?_ | refine pureQ_use (hmay) ?_) | (with_reducible first | refine callH_use (hin _) ?_ | refine pureQ_use (hin _) ?_)))
      exact ⟨_, St.le.refl _, st, h0, by (refine ⟨fun i o e => ?_, fun _ h => h⟩; revert e; simp only [St.ins, St.del, add_objs, kill_objs]; (repeat' split); all_goals (first | exact id | (intros; contradiction) | (intros; subst_vars; contradiction) | (intros; simp_all; done) | (intros; subst_vars; simp_all; done)))⟩
    have b1 : -1125899906842624 ≤ a ∧ -1125899906842624 ≤ z ∧ a ≤ 1125899906842624 ∧ z ≤ 1125899906842624 := by omega
    obtain ⟨b1, b2, b3, b4⟩ := b1
    have hw : IntKind.i64.wrap (z - a) = z - a := wrap_i64 _ (by omega) (by omega)
    by_cases c3 : z ≤ a
    · refine VCalls.of v_span_over_ok (Nat.le_of_ble_eq_true rfl) ?_
      simp only [v_span_over, ↓vD, vU, ↓vMd, vMu, VE.ev, VE.evs, retvs, tupOf, grab, vfill, vbsl, eqCells, eqCell, veqs, veqs1, vmnx, AV.isCell, AV.isUndef, Nat.reduceEqDiff, Nat.reduceAdd, Nat.reduceSub, Nat.reduceLeDiff, Nat.reduceLT, reduceIte, reduceCtorEq, Nat.reduceBEq, k_app, k_slc1]
      (repeat' (first | (simp (config := { maxDischargeDepth := 16 }) only [*, num, decide_false, decide_true, Bool.false_and, Bool.true_and, Bool.and_false, Bool.not_false, Bool.not_true, vX, Int.reduceLE, Int.reduceLT, Int.reduceGE, Int.reduceGT, Int.reduceBEq, Int.reduceBNe, Int.reduceAdd, Int.reduceSub, Int.reduceMul, Int.reduceNeg, ↓vD, vU, ↓vMd, vMu, VE.ev, VE.evs, retvs, tupOf, grab, vfill, vbsl, eqCells, eqCell, veqs, veqs1, vmnx, AV.isCell, AV.isUndef, Nat.reduceEqDiff, Nat.reduceAdd, Nat.reduceSub, Nat.reduceLeDiff, Nat.reduceLT, reduceIte, reduceCtorEq, Nat.reduceBEq]) | (simp (disch := first | assumption | omega | exact Seg.len _ | exact Vec.len _ | exact Leg.len _ | exact num_len _ | exact rowA_len _ | exact rowA_len | exact rowT_len _ | exact rowT_len | exact Seg.len | exact Vec.len | exact Leg.len | exact num_len | exact AV.slen _ _ | rfl) only [num, decide_false, decide_true, Bool.false_and, Bool.true_and, Bool.and_false, Bool.not_false, Bool.not_true, vP]) | ((with_reducible first | refine gsnd ?_ ?_ | refine csnd ?_ ?_ | refine gsd ?_ ?_ | refine csd ?_ ?_ | refine gsn ?_ ?_ | refine csn ?_ ?_ | refine gs ?_ ?_ | refine cs_ ?_ ?_) <;> intro _) | (with_reducible refine objQ_i (fun _ _ => ?_); (repeat (with_reducible refine imp_i (fun _ => ?_)))) | (with_reducible first | refine callH_use (hmay) ?_ | refine pureQ_use (hmay) ?_) | (with_reducible first | refine callH_use (hin _) ?_ | refine pureQ_use (hin _) ?_)))
      exact ⟨_, St.le.refl _, st, h0, by (refine ⟨fun i o e => ?_, fun _ h => h⟩; revert e; simp only [St.ins, St.del, add_objs, kill_objs]; (repeat' split); all_goals (first | exact id | (intros; contradiction) | (intros; subst_vars; contradiction) | (intros; simp_all; done) | (intros; subst_vars; simp_all; done)))⟩
    · have c4 : 8000 < z - a := by omega
      refine VCalls.of v_span_over_ok (Nat.le_of_ble_eq_true rfl) ?_
      simp only [v_span_over, ↓vD, vU, ↓vMd, vMu, VE.ev, VE.evs, retvs, tupOf, grab, vfill, vbsl, eqCells, eqCell, veqs, veqs1, vmnx, AV.isCell, AV.isUndef, Nat.reduceEqDiff, Nat.reduceAdd, Nat.reduceSub, Nat.reduceLeDiff, Nat.reduceLT, reduceIte, reduceCtorEq, Nat.reduceBEq, k_app, k_slc1]
      (repeat' (first | (simp (config := { maxDischargeDepth := 16 }) only [*, num, decide_false, decide_true, Bool.false_and, Bool.true_and, Bool.and_false, Bool.not_false, Bool.not_true, vX, Int.reduceLE, Int.reduceLT, Int.reduceGE, Int.reduceGT, Int.reduceBEq, Int.reduceBNe, Int.reduceAdd, Int.reduceSub, Int.reduceMul, Int.reduceNeg, ↓vD, vU, ↓vMd, vMu, VE.ev, VE.evs, retvs, tupOf, grab, vfill, vbsl, eqCells, eqCell, veqs, veqs1, vmnx, AV.isCell, AV.isUndef, Nat.reduceEqDiff, Nat.reduceAdd, Nat.reduceSub, Nat.reduceLeDiff, Nat.reduceLT, reduceIte, reduceCtorEq, Nat.reduceBEq]) | (simp (disch := first | assumption | omega | exact Seg.len _ | exact Vec.len _ | exact Leg.len _ | exact num_len _ | exact rowA_len _ | exact rowA_len | exact rowT_len _ | exact rowT_len | exact Seg.len | exact Vec.len | exact Leg.len | exact num_len | exact AV.slen _ _ | rfl) only [num, decide_false, decide_true, Bool.false_and, Bool.true_and, Bool.and_false, Bool.not_false, Bool.not_true, vP]) | ((with_reducible first | refine gsnd ?_ ?_ | refine csnd ?_ ?_ | refine gsd ?_ ?_ | refine csd ?_ ?_ | refine gsn ?_ ?_ | refine csn ?_ ?_ | refine gs ?_ ?_ | refine cs_ ?_ ?_) <;> intro _) | (with_reducible refine objQ_i (fun _ _ => ?_); (repeat (with_reducible refine imp_i (fun _ => ?_)))) | (with_reducible first | refine callH_use (hmay) ?_ | refine pureQ_use (hmay) ?_) | (with_reducible first | refine callH_use (hin _) ?_ | refine pureQ_use (hin _) ?_)))
      exact ⟨_, St.le.refl _, st, h0, by (refine ⟨fun i o e => ?_, fun _ h => h⟩; revert e; simp only [St.ins, St.del, add_objs, kill_objs]; (repeat' split); all_goals (first | exact id | (intros; contradiction) | (intros; subst_vars; contradiction) | (intros; simp_all; done) | (intros; subst_vars; simp_all; done)))⟩
  case pos =>
    have e : overE f a z = 0 := by unfold overE; rw [hmf, if_pos rfl, if_pos hc]
    have hh2 := hh e
    simp only [e, if_true]
    clear hmf e hh
    obtain ⟨c1, c2, c3, c4⟩ := hc
    have b1 : -1125899906842624 ≤ a ∧ -1125899906842624 ≤ z ∧ a ≤ 1125899906842624 ∧ z ≤ 1125899906842624 := by omega
    obtain ⟨b1, b2, b3, b4⟩ := b1
    have hw : IntKind.i64.wrap (z - a) = z - a := wrap_i64 _ (by omega) (by omega)
    have hr := runs_c f a z t
    unfold num at hr
    have HH := Hid.mk hh2
    clear hh2
    refine VCalls.of v_span_over_ok (Nat.le_of_ble_eq_true rfl) ?_
    simp only [v_span_over, ↓vD, vU, ↓vMd, vMu, VE.ev, VE.evs, retvs, tupOf, grab, vfill, vbsl, eqCells, eqCell, veqs, veqs1, vmnx, AV.isCell, AV.isUndef, Nat.reduceEqDiff, Nat.reduceAdd, Nat.reduceSub, Nat.reduceLeDiff, Nat.reduceLT, reduceIte, reduceCtorEq, Nat.reduceBEq, k_app, k_slc1]
    (repeat' (first | (simp (config := { maxDischargeDepth := 16 }) only [*, num, decide_false, decide_true, Bool.false_and, Bool.true_and, Bool.and_false, Bool.not_false, Bool.not_true, Bool.and_self, vX, Int.reduceLE, Int.reduceLT, Int.reduceGE, Int.reduceGT, Int.reduceBEq, Int.reduceBNe, Int.reduceAdd, Int.reduceSub, Int.reduceMul, Int.reduceNeg, ↓vD, vU, ↓vMd, vMu, VE.ev, VE.evs, retvs, tupOf, grab, vfill, vbsl, eqCells, eqCell, veqs, veqs1, vmnx, AV.isCell, AV.isUndef, Nat.reduceEqDiff, Nat.reduceAdd, Nat.reduceSub, Nat.reduceLeDiff, Nat.reduceLT, reduceIte, reduceCtorEq, Nat.reduceBEq]) | (simp (disch := first | assumption | omega | exact Seg.len _ | exact Vec.len _ | exact Leg.len _ | exact num_len _ | exact rowA_len _ | exact rowA_len | exact rowT_len _ | exact rowT_len | exact Seg.len | exact Vec.len | exact Leg.len | exact num_len | exact AV.slen _ _ | rfl) only [num, decide_false, decide_true, Bool.false_and, Bool.true_and, Bool.and_false, Bool.not_false, Bool.not_true, Bool.and_self, vP]) | ((with_reducible first | refine gsnd ?_ ?_ | refine csnd ?_ ?_ | refine gsd ?_ ?_ | refine csd ?_ ?_ | refine gsn ?_ ?_ | refine csn ?_ ?_ | refine gs ?_ ?_ | refine cs_ ?_ ?_) <;> intro _) | (with_reducible refine objQ_i (fun _ _ => ?_); (repeat (with_reducible refine imp_i (fun _ => ?_)))) | (with_reducible first | refine callH_use (hmay) ?_ | refine pureQ_use (hmay) ?_) | (with_reducible first | refine callH_use (hin _) ?_ | refine pureQ_use (hin _) ?_) | (with_reducible first | refine callH_use (hr) ?_ | refine pureQ_use (hr) ?_)))
    rename_i b7 h7
    refine rng_iter (gf := 128) (fs := []) (by simp only [↓vD, vU, ↓vMd, vMu, VE.ev, VE.evs, retvs, tupOf, grab, vfill, vbsl, eqCells, eqCell, veqs, veqs1, vmnx, AV.isCell, AV.isUndef, Nat.reduceEqDiff, Nat.reduceAdd, Nat.reduceSub, Nat.reduceLeDiff, Nat.reduceLT, reduceIte, reduceCtorEq, Nat.reduceBEq, k_app, k_slc1]; rfl) (runs_it f (by omega) a z b1 b4 c3 t) (by intro x hx; obtain ⟨_, _, rfl⟩ := List.mem_map.1 hx; rfl) (fun j T => ∃ S, T = S.ins b7 (.cells [.clo g fs cs]) ∧ I j S ∧ S.objs b7 = none) (fun _ _ => False) ⟨st, rfl, h0, h7⟩ ?_ ?_ (by intro _ _ _ _ _ _ _ h; exact h.elim)
    · rintro Y l0 D r hzy nlD nDl j hj T ⟨S, rfl, hI, hS7⟩ hTl hTD
      simp only [ins_objs, ite_some_none] at hTl hTD
      obtain ⟨q1, q2, hSl⟩ := hTl
      obtain ⟨r1, r2, hSD⟩ := hTD
      rw [List.length_map] at hj
      simp only [List.getElem_map]
      have hcall := (HH.out j hj S hI).z hzy
      obtain ⟨it, hit⟩ : ∃ it, (runsF f a z)[j] = it := ⟨_, rfl⟩
      rw [hit] at hcall ⊢
      simp only [runA] at hcall
      clear hit
      (repeat' (first | (simp (config := { maxDischargeDepth := 16 }) only [*, argsFr1_t, argsFr1_d, runA, rq_normal, vX, Int.reduceLE, Int.reduceLT, Int.reduceGE, Int.reduceGT, Int.reduceBEq, Int.reduceBNe, Int.reduceAdd, Int.reduceSub, Int.reduceMul, Int.reduceNeg, ↓vD, vU, ↓vMd, vMu, VE.ev, VE.evs, retvs, tupOf, grab, vfill, vbsl, eqCells, eqCell, veqs, veqs1, vmnx, AV.isCell, AV.isUndef, Nat.reduceEqDiff, Nat.reduceAdd, Nat.reduceSub, Nat.reduceLeDiff, Nat.reduceLT, reduceIte, reduceCtorEq, Nat.reduceBEq]) | (simp (disch := first | assumption | omega | exact Seg.len _ | exact Vec.len _ | exact Leg.len _ | exact num_len _ | exact rowA_len _ | exact rowA_len | exact rowT_len _ | exact rowT_len | exact Seg.len | exact Vec.len | exact Leg.len | exact num_len | exact AV.slen _ _ | rfl) only [argsFr1_t, argsFr1_d, runA, rq_normal, vP]) | ((with_reducible first | refine gsnd ?_ ?_ | refine csnd ?_ ?_ | refine gsd ?_ ?_ | refine csd ?_ ?_ | refine gsn ?_ ?_ | refine csn ?_ ?_ | refine gs ?_ ?_ | refine cs_ ?_ ?_) <;> intro _) | (with_reducible refine objQ_i (fun _ _ => ?_); (repeat (with_reducible refine imp_i (fun _ => ?_))))))
      rename_i b9 h9 m1 m2 m3 m4 m5 m6
      refine callH_then ((((hcall.frame b7 _ hS7).frame D _ (by simp only [ins_objs, kill_objs, add_objs, *, if_false, if_true, not_false_eq_true, ite_some_none, and_self, and_true, true_and])).frame b9 _ (by simp only [ins_objs, kill_objs, add_objs, *, if_false, if_true, not_false_eq_true, ite_some_none, and_self, and_true, true_and])).frame l0 _ (by simp only [ins_objs, kill_objs, add_objs, *, if_false, if_true, not_false_eq_true, ite_some_none, and_self, and_true, true_and])) ?_
      rintro v _ ⟨_, ⟨_, ⟨_, ⟨s0, hI', u7, rfl⟩, uD, rfl⟩, u9, rfl⟩, ul, rfl⟩
      simp only [ins_objs, ite_some_none] at u7 uD ul u9
      (repeat' (first | (simp (config := { maxDischargeDepth := 16 }) only [*, rq_normal, vX, Int.reduceLE, Int.reduceLT, Int.reduceGE, Int.reduceGT, Int.reduceBEq, Int.reduceBNe, Int.reduceAdd, Int.reduceSub, Int.reduceMul, Int.reduceNeg, ↓vD, vU, ↓vMd, vMu, VE.ev, VE.evs, retvs, tupOf, grab, vfill, vbsl, eqCells, eqCell, veqs, veqs1, vmnx, AV.isCell, AV.isUndef, Nat.reduceEqDiff, Nat.reduceAdd, Nat.reduceSub, Nat.reduceLeDiff, Nat.reduceLT, reduceIte, reduceCtorEq, Nat.reduceBEq]) | (simp (disch := first | assumption | omega | exact Seg.len _ | exact Vec.len _ | exact Leg.len _ | exact num_len _ | exact rowA_len _ | exact rowA_len | exact rowT_len _ | exact rowT_len | exact Seg.len | exact Vec.len | exact Leg.len | exact num_len | exact AV.slen _ _ | rfl) only [rq_normal, vP]) | ((with_reducible first | refine gsnd ?_ ?_ | refine csnd ?_ ?_ | refine gsd ?_ ?_ | refine csd ?_ ?_ | refine gsn ?_ ?_ | refine csn ?_ ?_ | refine gs ?_ ?_ | refine cs_ ?_ ?_) <;> intro _) | (with_reducible refine objQ_i (fun _ _ => ?_); (repeat (with_reducible refine imp_i (fun _ => ?_))))))
      have v9 : s0.objs b9 = none := u9.2.2.2.2
      exact ⟨_, ⟨⟨s0, rfl, hI', u7⟩, (by simp only [ins_objs, kill_objs, add_objs, *, if_false, if_true, not_false_eq_true, ite_some_none, and_self, and_true, true_and])⟩, (by simp only [ins_objs, kill_objs, add_objs, *, if_false, if_true, not_false_eq_true, ite_some_none, and_self, and_true, true_and]), by (refine leX.start ?_ rfl; (repeat (refine leX.in_ (by simp only [*, ins_objs, if_true, if_false]; first | done | rfl) ?_)); (repeat (first | refine leX.new (by first | assumption | (rw [hob]; assumption)) ?_ | refine leX.old (by (simp only [List.mem_cons, true_or, or_true, eq_self]; done)) ?_)); exact leX.refl _ _)⟩
    · rintro D l0 o T nlD nDl ⟨S, rfl, hI, hS7⟩ hTl hTD
      simp only [ins_objs, ite_some_none] at hTl hTD
      obtain ⟨q1, q2, hSl⟩ := hTl
      obtain ⟨r1, r2, hSD⟩ := hTD
      rw [List.length_map] at hI
      (repeat' (first | (simp (config := { maxDischargeDepth := 16 }) only [*, vX, Int.reduceLE, Int.reduceLT, Int.reduceGE, Int.reduceGT, Int.reduceBEq, Int.reduceBNe, Int.reduceAdd, Int.reduceSub, Int.reduceMul, Int.reduceNeg, ↓vD, vU, ↓vMd, vMu, VE.ev, VE.evs, retvs, tupOf, grab, vfill, vbsl, eqCells, eqCell, veqs, veqs1, vmnx, AV.isCell, AV.isUndef, Nat.reduceEqDiff, Nat.reduceAdd, Nat.reduceSub, Nat.reduceLeDiff, Nat.reduceLT, reduceIte, reduceCtorEq, Nat.reduceBEq]) | (simp (disch := first | assumption | omega | exact Seg.len _ | exact Vec.len _ | exact Leg.len _ | exact num_len _ | exact rowA_len _ | exact rowA_len | exact rowT_len _ | exact rowT_len | exact Seg.len | exact Vec.len | exact Leg.len | exact num_len | exact AV.slen _ _ | rfl) only [vP]) | ((with_reducible first | refine gsnd ?_ ?_ | refine csnd ?_ ?_ | refine gsd ?_ ?_ | refine csd ?_ ?_ | refine gsn ?_ ?_ | refine csn ?_ ?_ | refine gs ?_ ?_ | refine cs_ ?_ ?_) <;> intro _) | (with_reducible refine objQ_i (fun _ _ => ?_); (repeat (with_reducible refine imp_i (fun _ => ?_))))))
      refine ⟨_, S, rfl, ?_, by simp, by (refine ⟨fun i o e => ?_, fun _ h => h⟩; revert e; simp only [St.ins, St.del, add_objs, kill_objs]; (repeat' split); all_goals (first | exact id | (intros; contradiction) | (intros; subst_vars; contradiction) | (intros; simp_all; done) | (intros; subst_vars; simp_all; done))), S, ⟨rfl, hI⟩, St.le.refl _⟩
      intro D' hD'
      rcases List.mem_singleton.1 hD' with rfl
      exact ⟨(by simp only [ins_objs, kill_objs, add_objs, *, if_false, if_true, not_false_eq_true, ite_some_none, and_self, and_true, true_and]), hSD⟩
end Go.Proofs.Ytglekfgoadehbaa.V
end
section
set_option linter.unusedSimpArgs false
set_option linter.unusedVariables false
/- Sums of rows of functions: plain. -/
namespace Go.Proofs.Ytglekfgoadehbaa.V
open Go Go.Proofs Go.Proofs.Ytglekfgoadehbaa.SP
set_option maxRecDepth 100000
def small (b : Int) (v : Vec) : Prop := (-b ≤ v.m ∧ v.m ≤ b) ∧ (-b ≤ v.c ∧ v.c ≤ b)
theorem atF_small {f : List Seg} {b : Int} (hb : 0 ≤ b) (h : ∀ x ∈ f, small b x.v) (t : Int) : small b (atF f t) := by
  have : ∀ (l : List Seg) (v : Vec), (∀ x ∈ l, small b x.v) → small b v → small b (l.foldl (fun v x => if x.t ≤ t then x.v else v) v) := by
    intro l
    induction l with
    | nil => intro v _ hv; exact hv
    | cons x l ih =>
      intro v hl hv
      rw [List.foldl_cons]
      refine ih _ (fun y hy => hl y (by simp [hy])) ?_
      split
      · exact hl x (by simp)
      · exact hv
  exact this f v0 h (by unfold small v0; simp only; omega)
end Go.Proofs.Ytglekfgoadehbaa.V
end
section
set_option linter.unusedSimpArgs false
set_option linter.unusedVariables false
/- Sums over windows, in plain Lean: tick by tick, and by runs. -/
namespace Go.Proofs.Ytglekfgoadehbaa.V
open Go Go.Proofs
/-- A sum over so many ticks from a time on. -/
def sumT (h : Int → Int) : Int → Nat → Int
  | _, 0 => 0
  | p, n + 1 => h p + sumT h (p + 1) n
theorem sumT_add (h : Int → Int) : ∀ (a b : Nat) (p : Int), sumT h p (a + b) = sumT h p a + sumT h (p + a) b
  | 0, b, p => by simp [sumT]
  | a + 1, b, p => by
    rw [show a + 1 + b = (a + b) + 1 by omega, sumT, sumT, sumT_add h a b (p + 1), show p + ((a + 1 : Nat) : Int) = p + 1 + a by omega]; omega
theorem sumT_const (h : Int → Int) (c : Int) : ∀ (n : Nat) (p : Int), (∀ s, p ≤ s → s < p + n → h s = c) → sumT h p n = n * c
  | 0, p, _ => by simp [sumT]
  | n + 1, p, hc => by
    rw [sumT, hc p (Int.le_refl _) (by omega), sumT_const h c n (p + 1) (fun s h1 h2 => hc s (by omega) (by omega))]
    rw [show ((n + 1 : Nat) : Int) = n + 1 by omega, Int.add_mul]; omega
theorem sumT_congr (h k : Int → Int) : ∀ (n : Nat) (p : Int), (∀ s, p ≤ s → s < p + n → h s = k s) → sumT h p n = sumT k p n
  | 0, _, _ => rfl
  | n + 1, p, hc => by
    rw [sumT, sumT, hc p (Int.le_refl _) (by omega), sumT_congr h k n (p + 1) (fun s h1 h2 => hc s (by omega) (by omega))]
theorem sumT_bd (h : Int → Int) (M : Int) : ∀ (n : Nat) (p : Int), (∀ s, p ≤ s → s < p + n → -M ≤ h s ∧ h s ≤ M) → -(M * n) ≤ sumT h p n ∧ sumT h p n ≤ M * n
  | 0, _, _ => by simp [sumT]
  | n + 1, p, hc => by
    have h1 := hc p (Int.le_refl _) (by omega)
    have h2 := sumT_bd h M n (p + 1) (fun s g1 g2 => hc s (by omega) (by omega))
    rw [sumT, show ((n + 1 : Nat) : Int) = n + 1 by omega, Int.mul_add, Int.mul_one]; omega
theorem sumT_split (h k : Int → Int) : ∀ (n : Nat) (p : Int), sumT (fun s => h s + k s) p n = sumT h p n + sumT k p n
  | 0, _ => rfl
  | n + 1, p => by rw [sumT, sumT, sumT, sumT_split h k n (p + 1)]; omega
/-- What runs sum up to. -/
def sumR_ (g : Vec → Int) : List (Vec × Int) → Int
  | [] => 0
  | q :: r => q.2 * g q.1 + sumR_ g r
theorem runs_sum (z : Int) (a : Int) (g : Vec → Int) : ∀ (r : List Seg) (p : Int) (u : Vec), (r.map (·.t)).Pairwise (· < ·) → (∀ x ∈ r, a < x.t ∧ x.t < z ∧ p < x.t) → p ≤ z →
    sumR_ g (runsGo a z r p u) = sumT (fun s => g (atP u r s)) p (z - p).toNat
  | [], p, u, _, _, hpz => by
    simp only [runsGo, sumR_]
    rw [sumT_const (fun s => g (atP u [] s)) (g u) _ _ (fun s _ _ => rfl), Int.toNat_of_nonneg (by omega)]; omega
  | x :: r, p, u, hp, hx, hpz => by
    simp only [List.map_cons, List.pairwise_cons, List.mem_map, forall_exists_index, and_imp, forall_apply_eq_imp_iff₂] at hp
    obtain ⟨h1, h2, h3⟩ := hx x (by simp)
    have ih := runs_sum z a g r x.t x.v hp.2 (fun y hy => ⟨(hx y (by simp [hy])).1, (hx y (by simp [hy])).2.1, hp.1 y hy⟩) (by omega)
    rw [runsGo, if_neg (by omega), sumR_, ih]
    have e : (z - p).toNat = (x.t - p).toNat + (z - x.t).toNat := by omega
    rw [e, sumT_add, show p + ((x.t - p).toNat : Int) = x.t by omega]
    congr 1
    · rw [sumT_const _ (g u) _ _ (fun s g1 g2 => by
        rw [atP_late2 u _ s (fun y hy => ?_)]
        rcases List.mem_cons.1 hy with rfl | hy
        · omega
        · have := hp.1 y hy; omega), Int.toNat_of_nonneg (by omega)]
    · exact sumT_congr _ _ _ _ (fun s g1 g2 => by simp only [atP, List.foldl_cons]; rw [if_pos g1])
theorem runsF_sum {f : List Seg} (hf : mayF f = true) {a z : Int} (h : a ≤ z) (g : Vec → Int) : sumR_ g (runsF f a z) = sumT (fun s => g (atF f s)) a (z - a).toNat := by
  have hu := ((mayF_iff f).1 hf).1.up
  unfold runsF
  rw [runsGo_ins]
  obtain ⟨hu', hin⟩ := insW_up a z hu
  rw [runs_sum z a g (insW a z f) a (atF f a) hu' (fun x hx => ⟨(hin x hx).1, (hin x hx).2, (hin x hx).1⟩) h]
  exact sumT_congr _ _ _ _ (fun s g1 g2 => by
    have h2 : atF f s = atP (atF f a) (insW a z f) s := atP_from a z f v0 s hu g1 (by omega)
    rw [h2])
def moreF (a b : Vec) (n : Int) : Vec := ⟨wr (a.m + wr (n * b.m)), wr (a.c + wr (n * b.c))⟩
def sumF_ (f : List Seg) (a z : Int) : Vec := (runsF f a z).foldl (fun o q => moreF o q.1 q.2) v0
theorem fold_more (B : Int) (hB : 0 ≤ B) (hB2 : B ≤ 17592186044416) : ∀ (l : List (Vec × Int)) (o : Vec) (N : Int), (∀ q ∈ l, small B q.1 ∧ 0 ≤ q.2) → 0 ≤ N → N + sumR_ (fun _ => 1) l ≤ 8192 → (-(B * N) ≤ o.m ∧ o.m ≤ B * N) → (-(B * N) ≤ o.c ∧ o.c ≤ B * N) →
    l.foldl (fun o q => moreF o q.1 q.2) o = ⟨o.m + sumR_ Vec.m l, o.c + sumR_ Vec.c l⟩
  | [], o, N, _, _, _, _, _ => by simp [sumR_]
  | q :: r, o, N, hl, hN, hs, h1, h2 => by
    obtain ⟨hq, hq2⟩ := hl q (by simp)
    simp only [small] at hq
    simp only [sumR_, Int.mul_one] at hs
    have hr : 0 ≤ sumR_ (fun _ => 1) r := by
      have : ∀ (l : List (Vec × Int)), (∀ q ∈ l, 0 ≤ q.2) → 0 ≤ sumR_ (fun _ => 1) l := by
        intro l
        induction l with
        | nil => intro _; simp [sumR_]
        | cons p l ih => intro h; have := ih (fun q hq => h q (by simp [hq])); have := h p (by simp); simp only [sumR_, Int.mul_one]; omega
      exact this r (fun p hp => (hl p (by simp [hp])).2)
    have b1 : -(B * q.2) ≤ q.2 * q.1.m ∧ q.2 * q.1.m ≤ B * q.2 := by
      constructor
      · have := Int.mul_le_mul_of_nonneg_left (show -B ≤ q.1.m by omega) hq2
        rw [Int.mul_neg, Int.mul_comm q.2 B] at this; omega
      · have := Int.mul_le_mul_of_nonneg_left (show q.1.m ≤ B by omega) hq2
        rw [Int.mul_comm q.2 B] at this; omega
    have b2 : -(B * q.2) ≤ q.2 * q.1.c ∧ q.2 * q.1.c ≤ B * q.2 := by
      constructor
      · have := Int.mul_le_mul_of_nonneg_left (show -B ≤ q.1.c by omega) hq2
        rw [Int.mul_neg, Int.mul_comm q.2 B] at this; omega
      · have := Int.mul_le_mul_of_nonneg_left (show q.1.c ≤ B by omega) hq2
        rw [Int.mul_comm q.2 B] at this; omega
    have b3 : B * (N + q.2) ≤ 17592186044416 * 8192 := Int.le_trans (Int.mul_le_mul_of_nonneg_left (show N + q.2 ≤ 8192 by omega) hB) (Int.mul_le_mul_of_nonneg_right hB2 (by omega))
    have b4 : B * (N + q.2) = B * N + B * q.2 := Int.mul_add ..
    have b5 : 0 ≤ B * N := Int.mul_nonneg hB hN
    have b6 : 0 ≤ B * q.2 := Int.mul_nonneg hB hq2
    have e : moreF o q.1 q.2 = ⟨o.m + q.2 * q.1.m, o.c + q.2 * q.1.c⟩ := by
      unfold moreF wr
      rw [wrap_i64 (q.2 * q.1.m) (by omega) (by omega), wrap_i64 (q.2 * q.1.c) (by omega) (by omega), wrap_i64 (o.m + q.2 * q.1.m) (by omega) (by omega), wrap_i64 (o.c + q.2 * q.1.c) (by omega) (by omega)]
    rw [List.foldl_cons, e, fold_more B hB hB2 r _ (N + q.2) (fun p hp => hl p (by simp [hp])) (by omega) (by omega) (by simp only; omega) (by simp only; omega)]
    simp only [sumR_, Vec.mk.injEq]; omega
/-- A sum of a function that is small, over a window. -/
theorem sumF_is {f : List Seg} (hf : mayF f = true) {B : Int} (hB : 0 ≤ B) (hB2 : B ≤ 17592186044416) (hs : ∀ x ∈ f, small B x.v) {a z : Int} (h : a < z) (hz : z - a ≤ 8192) :
    sumF_ f a z = ⟨sumT (fun s => (atF f s).m) a (z - a).toNat, sumT (fun s => (atF f s).c) a (z - a).toNat⟩ := by
  obtain ⟨_, i2⟩ := runsF_law ((mayF_iff f).1 hf).1.up h
  unfold sumF_
  rw [fold_more B hB hB2 (runsF f a z) v0 0 (fun q hq => by
    obtain ⟨q0, s, _, _, e⟩ := i2 q hq
    exact ⟨by rw [e]; exact atF_small hB hs s, by omega⟩) (by omega) (by
      rw [runsF_sum hf (by omega) (fun _ => 1), sumT_const _ 1 _ _ (fun _ _ _ => rfl)]; omega) (by simp [v0]) (by simp [v0]),
    runsF_sum hf (by omega) Vec.m, runsF_sum hf (by omega) Vec.c]
  simp [v0]
end Go.Proofs.Ytglekfgoadehbaa.V
end
section
set_option linter.unusedSimpArgs false
set_option linter.unusedVariables false
/- What span.Sum computes. -/
namespace Go.Proofs.Ytglekfgoadehbaa.V
open Go Go.Proofs
set_option maxRecDepth 100000
set_option maxHeartbeats 4000000
theorem more_v (a b : Vec) (n : Int) : VPure Try.prog 103 [a.a, b.a, num n] (moreF a b n).a := by
  refine VPure.of v_span_more_ok (Nat.le_of_ble_eq_true rfl) (fun Z st => ?_)
  simp only [v_span_more, ↓vD, vU, ↓vMd, vMu, VE.ev, VE.evs, retvs, tupOf, grab, vfill, vbsl, eqCells, eqCell, veqs, veqs1, vmnx, AV.isCell, AV.isUndef, Nat.reduceEqDiff, Nat.reduceAdd, Nat.reduceSub, Nat.reduceLeDiff, Nat.reduceLT, reduceIte, reduceCtorEq, Nat.reduceBEq, k_app, k_slc1]
  unfold moreF wr
  obtain ⟨p, hp⟩ : ∃ p, IntKind.i64.wrap (n * b.m) = p := ⟨_, rfl⟩
  obtain ⟨q, hq⟩ : ∃ q, IntKind.i64.wrap (n * b.c) = q := ⟨_, rfl⟩
  obtain ⟨r, hr⟩ : ∃ r, IntKind.i64.wrap (a.m + p) = r := ⟨_, rfl⟩
  obtain ⟨s, hs⟩ : ∃ s, IntKind.i64.wrap (a.c + q) = s := ⟨_, rfl⟩
  (repeat' (first | (simp (config := { maxDischargeDepth := 16 }) only [*, num, Vec.a, vX, Int.reduceLE, Int.reduceLT, Int.reduceGE, Int.reduceGT, Int.reduceBEq, Int.reduceBNe, Int.reduceAdd, Int.reduceSub, Int.reduceMul, Int.reduceNeg, ↓vD, vU, ↓vMd, vMu, VE.ev, VE.evs, retvs, tupOf, grab, vfill, vbsl, eqCells, eqCell, veqs, veqs1, vmnx, AV.isCell, AV.isUndef, Nat.reduceEqDiff, Nat.reduceAdd, Nat.reduceSub, Nat.reduceLeDiff, Nat.reduceLT, reduceIte, reduceCtorEq, Nat.reduceBEq]) | (simp (disch := first | assumption | omega | exact Seg.len _ | exact Vec.len _ | exact Leg.len _ | exact num_len _ | exact rowA_len _ | exact rowA_len | exact rowT_len _ | exact rowT_len | exact Seg.len | exact Vec.len | exact Leg.len | exact num_len | exact AV.slen _ _ | rfl) only [num, Vec.a, vP]) | ((with_reducible first | refine gsnd ?_ ?_ | refine csnd ?_ ?_ | refine gsd ?_ ?_ | refine csd ?_ ?_ | refine gsn ?_ ?_ | refine csn ?_ ?_ | refine gs ?_ ?_ | refine cs_ ?_ ?_) <;> intro _) | (with_reducible refine objQ_i (fun _ _ => ?_); (repeat (with_reducible refine imp_i (fun _ => ?_))))))
theorem Sum1_c {Z : Im} {S : St} (q : Vec × Int) (u : Vec) {b8 : Nat} :
    VCalls Try.prog Z 102 [runA q, .ptr b8 0] (S.ins b8 (.cells [.int .i64 u.m, .int .i64 u.c])) (fun _ s => s = S.ins b8 (.cells [.int .i64 (moreF u q.1 q.2).m, .int .i64 (moreF u q.1 q.2).c])) := by
  have hc := more_v u q.1 q.2
  obtain ⟨w, hw⟩ : ∃ w, moreF u q.1 q.2 = w := ⟨_, rfl⟩
  rw [hw] at hc ⊢
  clear hw
  simp only [Vec.a, num] at hc
  refine VCalls.of v_span_Sum_1_ok (Nat.le_of_ble_eq_true rfl) ?_
  simp only [v_span_Sum_1, ↓vD, vU, ↓vMd, vMu, VE.ev, VE.evs, retvs, tupOf, grab, vfill, vbsl, eqCells, eqCell, veqs, veqs1, vmnx, AV.isCell, AV.isUndef, Nat.reduceEqDiff, Nat.reduceAdd, Nat.reduceSub, Nat.reduceLeDiff, Nat.reduceLT, reduceIte, reduceCtorEq, Nat.reduceBEq, k_app, k_slc1]
  (repeat' (first | (simp (config := { maxDischargeDepth := 16 }) only [*, runA, vX, Int.reduceLE, Int.reduceLT, Int.reduceGE, Int.reduceGT, Int.reduceBEq, Int.reduceBNe, Int.reduceAdd, Int.reduceSub, Int.reduceMul, Int.reduceNeg, ↓vD, vU, ↓vMd, vMu, VE.ev, VE.evs, retvs, tupOf, grab, vfill, vbsl, eqCells, eqCell, veqs, veqs1, vmnx, AV.isCell, AV.isUndef, Nat.reduceEqDiff, Nat.reduceAdd, Nat.reduceSub, Nat.reduceLeDiff, Nat.reduceLT, reduceIte, reduceCtorEq, Nat.reduceBEq]) | (simp (disch := first | assumption | omega | exact Seg.len _ | exact Vec.len _ | exact Leg.len _ | exact num_len _ | exact rowA_len _ | exact rowA_len | exact rowT_len _ | exact rowT_len | exact Seg.len | exact Vec.len | exact Leg.len | exact num_len | exact AV.slen _ _ | rfl) only [runA, vP]) | ((with_reducible first | refine gsnd ?_ ?_ | refine csnd ?_ ?_ | refine gsd ?_ ?_ | refine csd ?_ ?_ | refine gsn ?_ ?_ | refine csn ?_ ?_ | refine gs ?_ ?_ | refine cs_ ?_ ?_) <;> intro _) | (with_reducible refine objQ_i (fun _ _ => ?_); (repeat (with_reducible refine imp_i (fun _ => ?_)))) | (with_reducible first | refine callH_use (hc) ?_ | refine pureQ_use (hc) ?_)))
  all_goals first | done | exact ⟨_, by (refine ⟨fun i o e => ?_, fun _ h => h⟩; revert e; simp only [St.ins, St.del, add_objs, kill_objs]; (repeat' split); all_goals (first | exact id | (intros; contradiction) | (intros; subst_vars; contradiction) | (intros; simp_all; done) | (intros; subst_vars; simp_all; done))), rfl⟩
def accV (R : List (Vec × Int)) (k : Nat) : Vec := (R.take k).foldl (fun o q => moreF o q.1 q.2) v0
theorem accV_next (R : List (Vec × Int)) {k : Nat} (hk : k < R.length) : accV R (k + 1) = moreF (accV R k) R[k].1 R[k].2 := by
  unfold accV
  rw [List.take_add_one, List.getElem?_eq_getElem hk, List.foldl_append]; rfl
theorem accV_all (f : List Seg) (a z : Int) : accV (runsF f a z) (runsF f a z).length = sumF_ f a z := by
  unfold accV sumF_; rw [List.take_length]
def accS (S : St) (b : Nat) (R : List (Vec × Int)) (k : Nat) : St := S.ins b (.cells [.int .i64 (accV R k).m, .int .i64 (accV R k).c])
theorem Sum_step {Z : Im} (R : List (Vec × Int)) {b8 : Nat} {S0 : St} (k : Nat) (hk : k < R.length) : VCalls Try.prog Z 102 ([] ++ [runA R[k]] ++ [.ptr b8 0]) (accS S0 b8 R k) (fun _ s => s = accS S0 b8 R (k + 1)) := by
  unfold accS
  rw [accV_next R hk]
  exact Sum1_c R[k] (accV R k)
theorem Sum_over {Z : Im} {S : St} (f : List Seg) (hn : f.length ≤ 1000000) (a z : Int) (t : Tok) {b8 : Nat} :
    VCalls Try.prog Z 101 [.sl (f.map Seg.a) t, num a, num z, .clo 102 [] [.ptr b8 0]] (S.ins b8 (.cells [.int .i64 0, .int .i64 0])) (fun r s => r = num (overE f a z) ∧ (if overE f a z = 0 then s = S.ins b8 (.cells [.int .i64 (sumF_ f a z).m, .int .i64 (sumF_ f a z).c]) else s = S.ins b8 (.cells [.int .i64 0, .int .i64 0]))) := by
  have h := over_c (Z := Z) (st := S.ins b8 (.cells [.int .i64 0, .int .i64 0])) f hn a z t (g := 102) (fs := []) (cs := [.ptr b8 0]) (fun k s => s = accS S b8 (runsF f a z) k) rfl (fun _ k hk s hs => by
    subst hs
    exact Sum_step _ k hk)
  refine h.mono ?_
  rintro r s ⟨rfl, hi⟩
  refine ⟨rfl, ?_⟩
  split at hi
  · rename_i he
    rw [if_pos he, hi, accS, accV_all]
  · rename_i he
    rw [if_neg he, hi]; rfl
theorem Sum_c (f : List Seg) (hn : f.length ≤ 1000000) (a z : Int) (t : Tok) :
    VPure Try.prog 81 [.sl (f.map Seg.a) t, num a, num z] (.tup [(if overE f a z = 0 then sumF_ f a z else v0).a, num (overE f a z)]) := fun Z st => by
  have HO : ∀ (S : St) (b8 : Nat), Hid (VCalls Try.prog Z 101 [.sl (f.map Seg.a) t, num a, num z, .clo 102 [] [.ptr b8 0]] (S.ins b8 (.cells [.int .i64 0, .int .i64 0])) (fun r s => r = num (overE f a z) ∧ (if overE f a z = 0 then s = S.ins b8 (.cells [.int .i64 (sumF_ f a z).m, .int .i64 (sumF_ f a z).c]) else s = S.ins b8 (.cells [.int .i64 0, .int .i64 0])))) := fun S b8 => ⟨Sum_over f hn a z t⟩
  obtain ⟨e, he⟩ : ∃ e, overE f a z = e := ⟨_, rfl⟩
  obtain ⟨w, hw⟩ : ∃ w, sumF_ f a z = w := ⟨_, rfl⟩
  rw [he, hw] at HO ⊢
  clear he hw
  refine VCalls.of v_span_Sum_ok (Nat.le_of_ble_eq_true rfl) ?_
  simp only [v_span_Sum, ↓vD, vU, ↓vMd, vMu, VE.ev, VE.evs, retvs, tupOf, grab, vfill, vbsl, eqCells, eqCell, veqs, veqs1, vmnx, AV.isCell, AV.isUndef, Nat.reduceEqDiff, Nat.reduceAdd, Nat.reduceSub, Nat.reduceLeDiff, Nat.reduceLT, reduceIte, reduceCtorEq, Nat.reduceBEq, k_app, k_slc1]
  (repeat' (first | (simp (config := { maxDischargeDepth := 16 }) only [*, num, vX, Int.reduceLE, Int.reduceLT, Int.reduceGE, Int.reduceGT, Int.reduceBEq, Int.reduceBNe, Int.reduceAdd, Int.reduceSub, Int.reduceMul, Int.reduceNeg, ↓vD, vU, ↓vMd, vMu, VE.ev, VE.evs, retvs, tupOf, grab, vfill, vbsl, eqCells, eqCell, veqs, veqs1, vmnx, AV.isCell, AV.isUndef, Nat.reduceEqDiff, Nat.reduceAdd, Nat.reduceSub, Nat.reduceLeDiff, Nat.reduceLT, reduceIte, reduceCtorEq, Nat.reduceBEq]) | (simp (disch := first | assumption | omega | exact Seg.len _ | exact Vec.len _ | exact Leg.len _ | exact num_len _ | exact rowA_len _ | exact rowA_len | exact rowT_len _ | exact rowT_len | exact Seg.len | exact Vec.len | exact Leg.len | exact num_len | exact AV.slen _ _ | rfl) only [num, vP]) | ((with_reducible first | refine gsnd ?_ ?_ | refine csnd ?_ ?_ | refine gsd ?_ ?_ | refine csd ?_ ?_ | refine gsn ?_ ?_ | refine csn ?_ ?_ | refine gs ?_ ?_ | refine cs_ ?_ ?_) <;> intro _) | (with_reducible refine objQ_i (fun _ _ => ?_); (repeat (with_reducible refine imp_i (fun _ => ?_))))))
  (rename_i b6 hb6 b8 hb8 n_b8_b6 n_b6_b8)
  have ho := (HO (st.ins b6 (.cells [.int .i64 0, .int .i64 0])) b8).out
  clear HO
  unfold num at ho
  refine callH_then ho ?_
  rintro _ s ⟨rfl, hI⟩
  clear ho
  by_cases h0 : e = 0
  · subst h0
    rw [if_pos rfl] at hI ⊢
    subst hI
    (repeat' (first | (simp (config := { maxDischargeDepth := 16 }) only [*, Vec.a, vX, Int.reduceLE, Int.reduceLT, Int.reduceGE, Int.reduceGT, Int.reduceBEq, Int.reduceBNe, Int.reduceAdd, Int.reduceSub, Int.reduceMul, Int.reduceNeg, ↓vD, vU, ↓vMd, vMu, VE.ev, VE.evs, retvs, tupOf, grab, vfill, vbsl, eqCells, eqCell, veqs, veqs1, vmnx, AV.isCell, AV.isUndef, Nat.reduceEqDiff, Nat.reduceAdd, Nat.reduceSub, Nat.reduceLeDiff, Nat.reduceLT, reduceIte, reduceCtorEq, Nat.reduceBEq]) | (simp (disch := first | assumption | omega | exact Seg.len _ | exact Vec.len _ | exact Leg.len _ | exact num_len _ | exact rowA_len _ | exact rowA_len | exact rowT_len _ | exact rowT_len | exact Seg.len | exact Vec.len | exact Leg.len | exact num_len | exact AV.slen _ _ | rfl) only [Vec.a, vP]) | ((with_reducible first | refine gsnd ?_ ?_ | refine csnd ?_ ?_ | refine gsd ?_ ?_ | refine csd ?_ ?_ | refine gsn ?_ ?_ | refine csn ?_ ?_ | refine gs ?_ ?_ | refine cs_ ?_ ?_) <;> intro _) | (with_reducible refine objQ_i (fun _ _ => ?_); (repeat (with_reducible refine imp_i (fun _ => ?_))))))
    all_goals first | done | rfl
  · rw [if_neg h0] at hI ⊢
    subst hI
    (repeat' (first | (simp (config := { maxDischargeDepth := 16 }) only [*, Vec.a, vX, Int.reduceLE, Int.reduceLT, Int.reduceGE, Int.reduceGT, Int.reduceBEq, Int.reduceBNe, Int.reduceAdd, Int.reduceSub, Int.reduceMul, Int.reduceNeg, ↓vD, vU, ↓vMd, vMu, VE.ev, VE.evs, retvs, tupOf, grab, vfill, vbsl, eqCells, eqCell, veqs, veqs1, vmnx, AV.isCell, AV.isUndef, Nat.reduceEqDiff, Nat.reduceAdd, Nat.reduceSub, Nat.reduceLeDiff, Nat.reduceLT, reduceIte, reduceCtorEq, Nat.reduceBEq]) | (simp (disch := first | assumption | omega | exact Seg.len _ | exact Vec.len _ | exact Leg.len _ | exact num_len _ | exact rowA_len _ | exact rowA_len | exact rowT_len _ | exact rowT_len | exact Seg.len | exact Vec.len | exact Leg.len | exact num_len | exact AV.slen _ _ | rfl) only [Vec.a, vP]) | ((with_reducible first | refine gsnd ?_ ?_ | refine csnd ?_ ?_ | refine gsd ?_ ?_ | refine csd ?_ ?_ | refine gsn ?_ ?_ | refine csn ?_ ?_ | refine gs ?_ ?_ | refine cs_ ?_ ?_) <;> intro _) | (with_reducible refine objQ_i (fun _ _ => ?_); (repeat (with_reducible refine imp_i (fun _ => ?_))))))
    all_goals first | done | rfl
end Go.Proofs.Ytglekfgoadehbaa.V
end
section
set_option linter.unusedSimpArgs false
set_option linter.unusedVariables false
/- slices' functions at api.Leg (printed by gen_sl.py). -/
namespace Go.Proofs.Ytglekfgoadehbaa.V
open Go Go.Proofs
set_option maxRecDepth 100000
theorem index_Leg {f : Nat} {fs cs : List AV} {Z : Im} (xs : List Leg) (hn : xs.length ≤ 1000000000000) (t : Tok) (g : Nat → Bool) (Inv : Nat → St → Prop) (st : St) (h0 : Inv 0 st)
    (hs : ∀ k s (hk : k < xs.length), Inv k s → VCalls Try.prog Z f (fs ++ [Leg.a xs[k]] ++ cs) s (fun r s' => r = .bool (g k) ∧ Inv (k + 1) s')) :
    VCalls Try.prog Z 95 [.sl (xs.map Leg.a) t, .clo f fs cs] st (fun r s => r = .int .i64 (idxI g xs.length) ∧ ∃ j, j ≤ xs.length ∧ Inv j s ∧ (idxI g xs.length = -1 → j = xs.length)) := by
  refine VCalls.of v_slices_IndexFunc_api_Leg_api_Leg_ok (Nat.le_of_ble_eq_true rfl) ?_
  simp only [v_slices_IndexFunc_api_Leg_api_Leg, ↓vD, vU, ↓vMd, vMu, VE.ev, VE.evs, retvs, tupOf, grab, vfill, vbsl, eqCells, eqCell, veqs, veqs1, vmnx, AV.isCell, AV.isUndef, Nat.reduceEqDiff, Nat.reduceAdd, Nat.reduceSub, Nat.reduceLeDiff, Nat.reduceLT, reduceIte, reduceCtorEq, Nat.reduceBEq, k_app, k_slc1]
  refine loopf_of (by simp only [asgL, dsts, List.cons_append, List.nil_append, List.append_nil]; rfl) (by simp only [noR, Bool.and_true, Bool.and_false]; rfl) hn (fun k fr s => Inv k s ∧ fr.t 8 = .int .i64 k ∧ ∀ j, j < k → g j = false) ?_ ?_ ?_
  · exact ⟨h0, by simp [↓vD, vU, ↓vMd, vMu, VE.ev, VE.evs, retvs, tupOf, grab, vfill, vbsl, eqCells, eqCell, veqs, veqs1, vmnx, AV.isCell, AV.isUndef, Nat.reduceEqDiff, Nat.reduceAdd, Nat.reduceSub, Nat.reduceLeDiff, Nat.reduceLT, reduceIte, reduceCtorEq, Nat.reduceBEq, k_app, k_slc1], by simp⟩
  · rintro k fr s hk hw hf hd ⟨hi, h8, hno⟩
    (repeat' (first | (simp (config := { maxDischargeDepth := 16 }) only [*, Leg.a, ↓vD, vU, ↓vMd, vMu, VE.ev, VE.evs, retvs, tupOf, grab, vfill, vbsl, eqCells, eqCell, veqs, veqs1, vmnx, AV.isCell, AV.isUndef, Nat.reduceEqDiff, Nat.reduceAdd, Nat.reduceSub, Nat.reduceLeDiff, Nat.reduceLT, reduceIte, reduceCtorEq, Nat.reduceBEq, k_app, k_slc1]) | (with_reducible refine gs (fun _ => ?_) (fun _ => ?_)) | (with_reducible refine cs_ (fun _ => ?_) (fun _ => ?_)) | (with_reducible refine objQ_i (fun _ _ => ?_); (repeat (with_reducible refine imp_i (fun _ => ?_)))) | (with_reducible refine appK_a ?_)))
    refine callH_then (hs k s hk hi) ?_
    rintro r s' ⟨rfl, hi'⟩
    (repeat' (first | (simp (config := { maxDischargeDepth := 16 }) only [*, Leg.a, ↓vD, vU, ↓vMd, vMu, VE.ev, VE.evs, retvs, tupOf, grab, vfill, vbsl, eqCells, eqCell, veqs, veqs1, vmnx, AV.isCell, AV.isUndef, Nat.reduceEqDiff, Nat.reduceAdd, Nat.reduceSub, Nat.reduceLeDiff, Nat.reduceLT, reduceIte, reduceCtorEq, Nat.reduceBEq, k_app, k_slc1]) | (with_reducible refine gs (fun _ => ?_) (fun _ => ?_)) | (with_reducible refine cs_ (fun _ => ?_) (fun _ => ?_)) | (with_reducible refine objQ_i (fun _ _ => ?_); (repeat (with_reducible refine imp_i (fun _ => ?_)))) | (with_reducible refine appK_a ?_)))
    · exact ⟨_, St.le.refl _, (idx_hit hk hno (by assumption)).symm, k + 1, hk, hi', fun e => by rw [idx_hit hk hno (by assumption)] at e; omega⟩
    · refine ⟨_, St.le.refl _, hi', fun j hj => ?_⟩
      rcases Nat.lt_succ_iff_lt_or_eq.1 hj with hj | rfl
      · exact hno j hj
      · assumption
  · rintro fr s hf hd ⟨hi, h8, hno⟩
    (repeat' (first | (simp (config := { maxDischargeDepth := 16 }) only [*, ↓vD, vU, ↓vMd, vMu, VE.ev, VE.evs, retvs, tupOf, grab, vfill, vbsl, eqCells, eqCell, veqs, veqs1, vmnx, AV.isCell, AV.isUndef, Nat.reduceEqDiff, Nat.reduceAdd, Nat.reduceSub, Nat.reduceLeDiff, Nat.reduceLT, reduceIte, reduceCtorEq, Nat.reduceBEq, k_app, k_slc1]) | (with_reducible refine gs (fun _ => ?_) (fun _ => ?_)) | (with_reducible refine cs_ (fun _ => ?_) (fun _ => ?_)) | (with_reducible refine objQ_i (fun _ _ => ?_); (repeat (with_reducible refine imp_i (fun _ => ?_)))) | (with_reducible refine appK_a ?_)))
    exact ⟨_, St.le.refl _, (idx_none hno).symm, _, Nat.le_refl _, hi, fun _ => rfl⟩
theorem contains_Leg {f : Nat} {fs cs : List AV} {Z : Im} (xs : List Leg) (hn : xs.length ≤ 1000000000000) (t : Tok) (g : Nat → Bool) (Inv : Nat → St → Prop) (st : St) (h0 : Inv 0 st)
    (hs : ∀ k s (hk : k < xs.length), Inv k s → VCalls Try.prog Z f (fs ++ [Leg.a xs[k]] ++ cs) s (fun r s' => r = .bool (g k) ∧ Inv (k + 1) s')) :
    VCalls Try.prog Z 73 [.sl (xs.map Leg.a) t, .clo f fs cs] st (fun r s => r = .bool ((List.range xs.length).any g) ∧ ∃ j, j ≤ xs.length ∧ Inv j s ∧ ((List.range xs.length).any g = false → j = xs.length)) := by
  refine VCalls.of v_slices_ContainsFunc_api_Leg_api_Leg_ok (Nat.le_of_ble_eq_true rfl) ?_
  simp only [v_slices_ContainsFunc_api_Leg_api_Leg, ↓vD, vU, ↓vMd, vMu, VE.ev, VE.evs, retvs, tupOf, grab, vfill, vbsl, eqCells, eqCell, veqs, veqs1, vmnx, AV.isCell, AV.isUndef, Nat.reduceEqDiff, Nat.reduceAdd, Nat.reduceSub, Nat.reduceLeDiff, Nat.reduceLT, reduceIte, reduceCtorEq, Nat.reduceBEq, k_app, k_slc1]
  refine callH_then (index_Leg xs hn t g Inv st h0 hs) ?_
  rintro r s ⟨rfl, j, hj, hi, hE⟩
  (repeat' (first | (simp (config := { maxDischargeDepth := 16 }) only [*, ↓vD, vU, ↓vMd, vMu, VE.ev, VE.evs, retvs, tupOf, grab, vfill, vbsl, eqCells, eqCell, veqs, veqs1, vmnx, AV.isCell, AV.isUndef, Nat.reduceEqDiff, Nat.reduceAdd, Nat.reduceSub, Nat.reduceLeDiff, Nat.reduceLT, reduceIte, reduceCtorEq, Nat.reduceBEq, k_app, k_slc1]) | (with_reducible refine gs (fun _ => ?_) (fun _ => ?_)) | (with_reducible refine cs_ (fun _ => ?_) (fun _ => ?_)) | (with_reducible refine objQ_i (fun _ _ => ?_); (repeat (with_reducible refine imp_i (fun _ => ?_)))) | (with_reducible refine appK_a ?_)))
  refine ⟨_, St.le.refl _, idx_any g _, j, hj, hi, fun e => hE ?_⟩
  have := idx_any g xs.length
  rw [e] at this
  simp only [decide_eq_false_iff_not] at this
  rcases idx_cases g xs.length with h | h
  · exact h
  · omega
theorem contains_pLeg {f : Nat} {fs cs : List AV} (xs : List Leg) (hn : xs.length ≤ 1000000000000) (t : Tok) (g : Leg → Bool)
    (hg : ∀ x, VPure Try.prog f (fs ++ [Leg.a x] ++ cs) (.bool (g x))) : VPure Try.prog 73 [.sl (xs.map Leg.a) t, .clo f fs cs] (.bool (xs.any g)) := by
  intro Z st
  refine (contains_Leg xs hn t (fun k => (xs[k]?.map g).getD false) (fun _ s => s = st) st rfl (fun k s hk e => ?_)).mono (fun r s ⟨h1, _, _, h2, _⟩ => ⟨h1.trans (by rw [any_range]), h2⟩)
  subst e
  rw [List.getElem?_eq_getElem hk]
  exact hg _ _ _
end Go.Proofs.Ytglekfgoadehbaa.V
end
section
set_option linter.unusedSimpArgs false
set_option linter.unusedVariables false
/- The compiled functions of the package slot (printed by Print.lean of this work). -/
namespace Go.Proofs.Ytglekfgoadehbaa.V
open Go Go.Proofs
def v_slot_Begins : VFn := ⟨.seq (.reg [⟨some 4, .box (.t 1), none, [], []⟩,
  ⟨some 6, .mov (.c (.sl [] .full)), none, [], []⟩,
  ⟨some 7, .mov (.c (.int .i64 0)), none, [1], []⟩])
(.seq (.reg [⟨some 16, .mov (.t 0), none, [], []⟩,
  ⟨some 17, .load 2 true (.t 4), none, [], []⟩,
  ⟨some 18, .mov (.t 2), none, [], []⟩,
  ⟨some 19, .call 41 [(.t 16), (.t 17), (.t 18)], none, [0, 1, 2], []⟩,
  ⟨some 15, .mov (.t 19), none, [3], []⟩,
  ⟨some 20, .ext (.t 15) 0, none, [4], []⟩,
  ⟨some 21, .ext (.t 15) 1, none, [4], []⟩,
  ⟨some 8, .mov (.t 20), none, [5, 3, 0, 1, 2, 3, 4, 5], []⟩,
  ⟨some 9, .mov (.t 21), none, [6, 7, 0, 1, 2, 3, 4, 5, 6, 7], []⟩])
(.seq (.seq (.reg [⟨some 22, .mov (.t 9), none, [], []⟩,
  ⟨some 23, .bin .neq (.t 22) (.c (.int .i64 0)), none, [0], []⟩,
  ⟨some 24, .mov (.t 23), none, [1], []⟩,
  ⟨some 25, .mov (.t 8), some (24, false), [2], []⟩,
  ⟨some 26, .fad 1 (.t 4), some (24, false), [2], []⟩,
  ⟨some 27, .load 1 false (.t 26), some (24, false), [4, 2], []⟩,
  ⟨some 28, .fad 0 (.t 4), some (24, false), [2], []⟩,
  ⟨some 29, .load 1 false (.t 28), some (24, false), [6, 2], []⟩,
  ⟨some 30, .bin .sub (.t 27) (.t 29), some (24, false), [5, 7, 2], []⟩,
  ⟨some 31, .bin .gtr (.t 25) (.t 30), some (24, false), [3, 8, 2], []⟩,
  ⟨some 32, .pick (.t 24) (.c (.bool true)) (.t 31), none, [2, 9], []⟩])
(.cond (.t 32)
  (.seq (.reg [⟨some 33, .mov (.t 9), none, [], []⟩,
    ⟨some 6, .mov (.c (.sl [] .full)), none, [], []⟩,
    ⟨some 7, .mov (.t 33), none, [0, 1, 0, 1], []⟩])
  (.ret))
  (.skip)))
(.seq (.reg [⟨some 34, .fad 0 (.t 4), none, [], []⟩,
  ⟨some 35, .load 1 false (.t 34), none, [0], []⟩,
  ⟨some 36, .fad 1 (.t 4), none, [], []⟩,
  ⟨some 37, .load 1 false (.t 36), none, [2], []⟩,
  ⟨some 38, .mov (.t 8), none, [], []⟩,
  ⟨some 39, .bin .sub (.t 37) (.t 38), none, [3, 4], []⟩,
  ⟨some 40, .bin .add (.t 39) (.c (.int .i64 1)), none, [5], []⟩,
  ⟨some 41, .build [(.int .i64 0), (.int .i64 0)] [(0, 1, (.t 35)), (1, 1, (.t 40))], none, [1, 6], []⟩,
  ⟨some 42, .bsl 2 [(.t 41)], none, [7], []⟩,
  ⟨some 10, .alloc [(.sl [] .full)], none, [], []⟩,
  ⟨none, .store 1 (.t 10) (.t 42), none, [9, 8, 0, 1, 2, 3, 4, 5, 6, 7, 8, 9], []⟩])
(.seq (.reg [⟨some 11, .alloc [(.int .i64 0)], none, [], []⟩,
  ⟨none, .store 1 (.t 11) (.c (.int .i64 0)), none, [0, 0], []⟩])
(.seq (.seq (.reg [⟨some 43, .mov (.t 2), none, [], []⟩,
  ⟨some 44, .len (.t 43), none, [0], []⟩,
  ⟨some 45, .mov (.c (.int .i64 0)), none, [], []⟩])
(.block 0
  (.loop
    (.seq (.reg [⟨some 46, .bin .lss (.t 45) (.t 44), none, [], []⟩])
    (.seq (.cond (.t 46)
      (.skip)
      (.exit 0))
    (.seq (.block 1
      (.seq (.reg [⟨some 47, .iad 3 (.t 43) (.t 45), none, [], []⟩,
        ⟨some 48, .load 3 true (.t 47), none, [0], []⟩,
        ⟨some 13, .alloc [(.int .i64 0), (.int .i64 0), (.int .i64 0)], none, [], []⟩,
        ⟨none, .store 3 (.t 13) (.t 48), none, [2, 1, 0, 1, 2], []⟩])
      (.seq (.seq (.reg [⟨some 49, .mov (.t 0), none, [], []⟩,
        ⟨some 50, .load 2 true (.t 4), none, [], []⟩,
        ⟨some 51, .fad 1 (.t 13), none, [], []⟩,
        ⟨some 52, .load 2 true (.t 51), none, [2], []⟩,
        ⟨some 53, .call 42 [(.t 49), (.t 50), (.t 52)], none, [0, 1, 3], []⟩])
      (.block 2
        (.rng (.t 53) [54]
          (.reg [⟨some 14, .alloc [(.int .i64 0), (.int .i64 0)], none, [], []⟩,
            ⟨none, .store 2 (.t 14) (.t 54), none, [0, 0], []⟩])
          (.block 3
            (.reg [⟨some 55, .load 1 false (.t 10), none, [], []⟩,
              ⟨some 56, .fad 0 (.t 14), none, [], []⟩,
              ⟨some 57, .load 1 false (.t 56), none, [1], []⟩,
              ⟨some 58, .fad 0 (.t 13), none, [], []⟩,
              ⟨some 59, .load 1 false (.t 58), none, [3], []⟩,
              ⟨some 60, .bin .sub (.t 57) (.t 59), none, [2, 4], []⟩,
              ⟨some 61, .bin .add (.t 60) (.c (.int .i64 1)), none, [5], []⟩,
              ⟨some 62, .load 1 false (.t 11), none, [], []⟩,
              ⟨some 63, .bin .sub (.t 61) (.t 62), none, [6, 7], []⟩,
              ⟨some 64, .fad 1 (.t 14), none, [], []⟩,
              ⟨some 65, .load 1 false (.t 64), none, [9], []⟩,
              ⟨some 66, .load 1 false (.t 11), none, [], []⟩,
              ⟨some 67, .bin .sub (.t 65) (.t 66), none, [10, 11], []⟩,
              ⟨some 68, .build [(.int .i64 0), (.int .i64 0)] [(0, 1, (.t 63)), (1, 1, (.t 67))], none, [8, 12], []⟩,
              ⟨some 69, .call 43 [(.t 55), (.t 68)], none, [0, 13], []⟩,
              ⟨none, .store 1 (.t 10) (.t 69), none, [14, 14, 0, 1, 2, 3, 4, 5, 6, 7, 8, 9, 10, 11, 12, 13, 14], []⟩])))))
      (.reg [⟨some 70, .load 1 false (.t 11), none, [], []⟩,
        ⟨some 71, .fad 0 (.t 13), none, [], []⟩,
        ⟨some 72, .load 1 false (.t 71), none, [1], []⟩,
        ⟨some 73, .bin .add (.t 70) (.t 72), none, [0, 2], []⟩,
        ⟨none, .store 1 (.t 11) (.t 73), none, [3, 0, 1, 2, 3], []⟩]))))
    (.reg [⟨some 74, .bin .add (.t 45) (.c (.int .i64 1)), none, [], []⟩,
      ⟨some 45, .mov (.t 74), none, [0], []⟩])))))))
(.seq (.seq (.reg [⟨some 75, .load 1 false (.t 10), none, [], []⟩,
  ⟨some 76, .len (.t 75), none, [0], []⟩,
  ⟨some 77, .bin .eql (.t 76) (.c (.int .i64 0)), none, [1], []⟩])
(.cond (.t 77)
  (.seq (.reg [⟨some 6, .mov (.c (.sl [] .full)), none, [], []⟩,
    ⟨some 7, .mov (.c (.int .i64 0)), none, [0, 0], []⟩])
  (.ret))
  (.skip)))
(.seq (.reg [⟨some 78, .load 1 false (.t 10), none, [], []⟩,
  ⟨some 6, .mov (.t 78), none, [0, 0], []⟩,
  ⟨some 7, .mov (.c (.int .i64 0)), none, [1, 0, 1], []⟩])
(.ret)))))))),
[.t 6, .t 7], 79⟩
theorem v_slot_Begins_ok : compF Try.prog 23 = some v_slot_Begins := by kernel_rfl
def v_slot_check : VFn := ⟨.seq (.reg [⟨some 4, .box (.t 1), none, [], []⟩,
  ⟨some 6, .mov (.c (.int .i64 0)), none, [], []⟩,
  ⟨some 7, .mov (.c (.int .i64 0)), none, [1], []⟩])
(.seq (.seq (.reg [⟨some 11, .mov (.t 0), none, [], []⟩,
  ⟨some 12, .call 46 [(.t 11)], none, [0], []⟩,
  ⟨some 13, .un .not (.t 12), none, [1], []⟩])
(.cond (.t 13)
  (.seq (.reg [⟨some 6, .mov (.c (.int .i64 0)), none, [], []⟩,
    ⟨some 7, .mov (.c (.int .i64 5)), none, [0, 0], []⟩])
  (.ret))
  (.skip)))
(.seq (.reg [⟨some 15, .mov (.t 2), none, [], []⟩,
  ⟨some 16, .call 47 [(.t 15)], none, [0], []⟩,
  ⟨some 14, .mov (.t 16), none, [1], []⟩,
  ⟨some 17, .ext (.t 14) 0, none, [2], []⟩,
  ⟨some 18, .ext (.t 14) 1, none, [2], []⟩,
  ⟨some 8, .mov (.t 17), none, [3, 1, 0, 1, 2, 3], []⟩,
  ⟨some 9, .mov (.t 18), none, [4, 5, 0, 1, 2, 3, 4, 5], []⟩])
(.seq (.reg [⟨some 10, .mov (.c (.clo 70 [] [])), none, [], []⟩])
(.seq (.block 0
  (.seq (.reg [⟨some 20, .mov (.t 9), none, [], []⟩,
    ⟨some 21, .bin .neq (.t 20) (.c (.int .i64 0)), none, [0], []⟩,
    ⟨some 22, .mov (.t 21), none, [1], []⟩,
    ⟨some 23, .fad 0 (.t 4), some (22, false), [2], []⟩,
    ⟨some 24, .load 1 false (.t 23), some (22, false), [3, 2], []⟩,
    ⟨some 25, .fad 1 (.t 4), some (22, false), [2], []⟩,
    ⟨some 26, .load 1 false (.t 25), some (22, false), [5, 2], []⟩,
    ⟨some 27, .bin .geq (.t 24) (.t 26), some (22, false), [4, 6, 2], []⟩,
    ⟨some 28, .pick (.t 22) (.c (.bool true)) (.t 27), none, [2, 7], []⟩,
    ⟨some 29, .mov (.t 28), none, [8, 2], []⟩,
    ⟨some 30, .fad 1 (.t 4), some (29, false), [9], []⟩,
    ⟨some 31, .load 1 false (.t 30), some (29, false), [10, 9], []⟩,
    ⟨some 32, .fad 0 (.t 4), some (29, false), [9], []⟩,
    ⟨some 33, .load 1 false (.t 32), some (29, false), [12, 9], []⟩,
    ⟨some 34, .bin .sub (.t 31) (.t 33), some (29, false), [11, 13, 9], []⟩,
    ⟨some 35, .conv .u64 (.t 34), some (29, false), [14, 9], []⟩,
    ⟨some 36, .bin .gtr (.t 35) (.c (.int .u64 4096)), some (29, false), [15, 9], []⟩,
    ⟨some 37, .pick (.t 29) (.c (.bool true)) (.t 36), none, [9, 16], []⟩,
    ⟨some 19, .mov (.t 37), none, [17, 9], []⟩])
  (.cond (.t 19)
    (.seq (.reg [⟨some 6, .mov (.c (.int .i64 0)), none, [], []⟩,
      ⟨some 7, .mov (.c (.int .i64 2)), none, [0, 0], []⟩])
    (.ret))
    (.seq (.reg [⟨some 39, .fad 0 (.t 4), none, [], []⟩,
      ⟨some 40, .load 1 false (.t 39), none, [0], []⟩,
      ⟨some 41, .call 72 [(.t 40)], none, [1], []⟩,
      ⟨some 42, .mov (.t 41), none, [2, 2], []⟩,
      ⟨some 43, .fad 1 (.t 4), some (42, false), [3], []⟩,
      ⟨some 44, .load 1 false (.t 43), some (42, false), [4, 3], []⟩,
      ⟨some 45, .call 72 [(.t 44)], some (42, false), [5, 3, 3], []⟩,
      ⟨some 46, .pick (.t 42) (.c (.bool true)) (.t 45), none, [3, 6], []⟩,
      ⟨some 47, .mov (.t 46), none, [7, 6], []⟩,
      ⟨some 48, .mov (.t 2), some (47, false), [8], []⟩,
      ⟨some 49, .mov (.t 10), some (47, false), [8], []⟩,
      ⟨some 50, .call 73 [(.t 48), (.t 49)], some (47, false), [9, 10, 8, 8], []⟩,
      ⟨some 51, .pick (.t 47) (.c (.bool true)) (.t 50), none, [8, 11], []⟩,
      ⟨some 38, .mov (.t 51), none, [12, 11], []⟩])
    (.cond (.t 38)
      (.seq (.reg [⟨some 6, .mov (.c (.int .i64 0)), none, [], []⟩,
        ⟨some 7, .mov (.c (.int .i64 10)), none, [0, 0], []⟩])
      (.ret))
      (.skip))))))
(.seq (.reg [⟨some 52, .mov (.t 8), none, [], []⟩,
  ⟨some 6, .mov (.t 52), none, [0, 0], []⟩,
  ⟨some 7, .mov (.c (.int .i64 0)), none, [1, 0, 1], []⟩])
(.ret)))))),
[.t 6, .t 7], 53⟩
theorem v_slot_check_ok : compF Try.prog 41 = some v_slot_check := by kernel_rfl
def v_slot_low : VFn := ⟨.seq (.reg [⟨some 3, .box (.t 0), none, [], []⟩,
  ⟨some 4, .box (.t 1), none, [], []⟩,
  ⟨some 5, .box (.t 2), none, [], []⟩,
  ⟨some 6, .mov (.c .nilf), none, [], []⟩])
(.seq (.reg [⟨some 7, .mkf 74 [] [(.t 4), (.t 3), (.t 5)], none, [], []⟩,
  ⟨some 6, .mov (.t 7), none, [0, 0], []⟩])
(.ret)),
[.t 6], 8⟩
theorem v_slot_low_ok : compF Try.prog 42 = some v_slot_low := by kernel_rfl
def v_slot_without : VFn := ⟨.seq (.reg [⟨some 3, .box (.t 1), none, [], []⟩,
  ⟨some 4, .mov (.c (.sl [] .full)), none, [], []⟩])
(.seq (.reg [⟨some 10, .mov (.t 0), none, [], []⟩,
  ⟨some 11, .slc 2 (.t 10) none (some (.c (.int .i64 0))) (some (.c (.int .i64 0))), none, [0], []⟩,
  ⟨some 5, .mov (.t 11), none, [1, 0, 1], []⟩])
(.seq (.seq (.reg [⟨some 12, .mov (.t 0), none, [], []⟩,
  ⟨some 13, .len (.t 12), none, [0], []⟩,
  ⟨some 14, .mov (.c (.int .i64 0)), none, [], []⟩])
(.block 0
  (.loop
    (.seq (.reg [⟨some 15, .bin .lss (.t 14) (.t 13), none, [], []⟩])
    (.seq (.cond (.t 15)
      (.skip)
      (.exit 0))
    (.seq (.block 1
      (.seq (.reg [⟨some 16, .iad 2 (.t 12) (.t 14), none, [], []⟩,
        ⟨some 17, .load 2 true (.t 16), none, [0], []⟩,
        ⟨some 7, .alloc [(.int .i64 0), (.int .i64 0)], none, [], []⟩,
        ⟨none, .store 2 (.t 7) (.t 17), none, [2, 1, 0, 1, 2], []⟩])
      (.seq (.reg [⟨some 18, .fad 0 (.t 7), none, [], []⟩,
        ⟨some 19, .load 1 false (.t 18), none, [0], []⟩,
        ⟨some 20, .fad 1 (.t 7), none, [], []⟩,
        ⟨some 21, .load 1 false (.t 20), none, [2], []⟩,
        ⟨some 22, .fad 0 (.t 3), none, [], []⟩,
        ⟨some 23, .load 1 false (.t 22), none, [4], []⟩,
        ⟨some 24, .mnx true (.t 21) [(.t 23)], none, [3, 5], []⟩,
        ⟨some 25, .build [(.int .i64 0), (.int .i64 0)] [(0, 1, (.t 19)), (1, 1, (.t 24))], none, [1, 6], []⟩,
        ⟨some 26, .fad 0 (.t 7), none, [], []⟩,
        ⟨some 27, .load 1 false (.t 26), none, [8], []⟩,
        ⟨some 28, .fad 1 (.t 3), none, [], []⟩,
        ⟨some 29, .load 1 false (.t 28), none, [10], []⟩,
        ⟨some 30, .mnx false (.t 27) [(.t 29)], none, [9, 11], []⟩,
        ⟨some 31, .fad 1 (.t 7), none, [], []⟩,
        ⟨some 32, .load 1 false (.t 31), none, [13], []⟩,
        ⟨some 33, .build [(.int .i64 0), (.int .i64 0)] [(0, 1, (.t 30)), (1, 1, (.t 32))], none, [12, 14], []⟩,
        ⟨some 34, .build [(.int .i64 0), (.int .i64 0), (.int .i64 0), (.int .i64 0)] [(0, 2, (.t 25)), (2, 2, (.t 33))], none, [7, 15], []⟩,
        ⟨some 35, .mov (.c (.int .i64 0)), none, [], []⟩])
      (.block 2
        (.loop
          (.seq (.reg [⟨some 36, .bin .lss (.t 35) (.c (.int .i64 2)), none, [], []⟩])
          (.seq (.cond (.t 36)
            (.skip)
            (.exit 2))
          (.seq (.block 3
            (.seq (.reg [⟨some 37, .ixa 2 2 true (.t 34) (.t 35), none, [], []⟩,
              ⟨some 9, .alloc [(.int .i64 0), (.int .i64 0)], none, [], []⟩,
              ⟨none, .store 2 (.t 9) (.t 37), none, [1, 0, 0, 1], []⟩])
            (.seq (.reg [⟨some 38, .fad 0 (.t 9), none, [], []⟩,
              ⟨some 39, .load 1 false (.t 38), none, [0], []⟩,
              ⟨some 40, .fad 1 (.t 9), none, [], []⟩,
              ⟨some 41, .load 1 false (.t 40), none, [2], []⟩,
              ⟨some 42, .bin .lss (.t 39) (.t 41), none, [1, 3], []⟩])
            (.cond (.t 42)
              (.reg [⟨some 43, .mov (.t 5), none, [], []⟩,
                ⟨some 44, .load 2 true (.t 9), none, [], []⟩,
                ⟨some 45, .bsl 2 [(.t 44)], none, [1], []⟩,
                ⟨some 46, .app 2 16 (.t 43) (.t 45), none, [0, 2], []⟩,
                ⟨some 5, .mov (.t 46), none, [3, 3, 0, 1, 2, 3], []⟩])
              (.skip)))))
          (.reg [⟨some 47, .bin .add (.t 35) (.c (.int .i64 1)), none, [], []⟩,
            ⟨some 35, .mov (.t 47), none, [0], []⟩])))))))))
    (.reg [⟨some 48, .bin .add (.t 14) (.c (.int .i64 1)), none, [], []⟩,
      ⟨some 14, .mov (.t 48), none, [0], []⟩])))))))
(.seq (.reg [⟨some 49, .mov (.t 5), none, [], []⟩,
  ⟨some 4, .mov (.t 49), none, [0, 0], []⟩])
(.ret)))),
[.t 4], 50⟩
theorem v_slot_without_ok : compF Try.prog 43 = some v_slot_without := by kernel_rfl
def v_slot_Length : VFn := ⟨.seq (.reg [⟨some 2, .mov (.c (.int .i64 0)), none, [], []⟩,
  ⟨some 3, .mov (.c (.int .i64 0)), none, [0], []⟩])
(.seq (.reg [⟨some 4, .mov (.c (.int .i64 0)), none, [], []⟩])
(.seq (.seq (.reg [⟨some 7, .mov (.t 0), none, [], []⟩,
  ⟨some 8, .len (.t 7), none, [0], []⟩,
  ⟨some 9, .mov (.c (.int .i64 0)), none, [], []⟩])
(.block 0
  (.loop
    (.seq (.reg [⟨some 10, .bin .lss (.t 9) (.t 8), none, [], []⟩])
    (.seq (.cond (.t 10)
      (.skip)
      (.exit 0))
    (.seq (.block 1
      (.seq (.reg [⟨some 11, .iad 3 (.t 7) (.t 9), none, [], []⟩,
        ⟨some 12, .load 3 true (.t 11), none, [0], []⟩,
        ⟨some 6, .alloc [(.int .i64 0), (.int .i64 0), (.int .i64 0)], none, [], []⟩,
        ⟨none, .store 3 (.t 6) (.t 12), none, [2, 1, 0, 1, 2], []⟩])
      (.seq (.seq (.reg [⟨some 13, .fad 0 (.t 6), none, [], []⟩,
        ⟨some 14, .load 1 false (.t 13), none, [0], []⟩,
        ⟨some 15, .bin .lss (.t 14) (.c (.int .i64 1)), none, [1], []⟩,
        ⟨some 16, .mov (.t 15), none, [2], []⟩,
        ⟨some 17, .fad 0 (.t 6), some (16, false), [3], []⟩,
        ⟨some 18, .load 1 false (.t 17), some (16, false), [4, 3], []⟩,
        ⟨some 19, .bin .gtr (.t 18) (.c (.int .i64 4096)), some (16, false), [5, 3], []⟩,
        ⟨some 20, .pick (.t 16) (.c (.bool true)) (.t 19), none, [3, 6], []⟩])
      (.cond (.t 20)
        (.seq (.reg [⟨some 2, .mov (.c (.int .i64 0)), none, [], []⟩,
          ⟨some 3, .mov (.c (.int .i64 2)), none, [0, 0], []⟩])
        (.ret))
        (.skip)))
      (.reg [⟨some 21, .mov (.t 4), none, [], []⟩,
        ⟨some 22, .fad 0 (.t 6), none, [], []⟩,
        ⟨some 23, .load 1 false (.t 22), none, [1], []⟩,
        ⟨some 24, .bin .add (.t 21) (.t 23), none, [0, 2], []⟩,
        ⟨some 4, .mov (.t 24), none, [3, 0, 1, 2, 3], []⟩]))))
    (.reg [⟨some 25, .bin .add (.t 9) (.c (.int .i64 1)), none, [], []⟩,
      ⟨some 9, .mov (.t 25), none, [0], []⟩])))))))
(.seq (.seq (.reg [⟨some 26, .mov (.t 0), none, [], []⟩,
  ⟨some 27, .len (.t 26), none, [0], []⟩,
  ⟨some 28, .bin .eql (.t 27) (.c (.int .i64 0)), none, [1], []⟩,
  ⟨some 29, .mov (.t 28), none, [2], []⟩,
  ⟨some 30, .mov (.t 0), some (29, false), [3], []⟩,
  ⟨some 31, .len (.t 30), some (29, false), [4, 3], []⟩,
  ⟨some 32, .bin .gtr (.t 31) (.c (.int .i64 16)), some (29, false), [5, 3], []⟩,
  ⟨some 33, .pick (.t 29) (.c (.bool true)) (.t 32), none, [3, 6], []⟩])
(.cond (.t 33)
  (.seq (.reg [⟨some 2, .mov (.c (.int .i64 0)), none, [], []⟩,
    ⟨some 3, .mov (.c (.int .i64 2)), none, [0, 0], []⟩])
  (.ret))
  (.skip)))
(.seq (.reg [⟨some 34, .mov (.t 4), none, [], []⟩,
  ⟨some 2, .mov (.t 34), none, [0, 0], []⟩,
  ⟨some 3, .mov (.c (.int .i64 0)), none, [1, 0, 1], []⟩])
(.ret))))),
[.t 2, .t 3], 35⟩
theorem v_slot_Length_ok : compF Try.prog 47 = some v_slot_Length := by kernel_rfl
def v_slot_check_1 : VFn := ⟨.seq (.reg [⟨some 1, .box (.t 0), none, [], []⟩,
  ⟨some 2, .mov (.c (.bool false)), none, [], []⟩])
(.seq (.reg [⟨some 3, .fad 1 (.t 1), none, [], []⟩,
  ⟨some 4, .load 2 true (.t 3), none, [0], []⟩,
  ⟨some 5, .call 71 [(.t 4)], none, [1], []⟩,
  ⟨some 6, .un .not (.t 5), none, [2], []⟩,
  ⟨some 2, .mov (.t 6), none, [3, 2, 0, 1, 2, 3], []⟩])
(.ret)),
[.t 2], 7⟩
theorem v_slot_check_1_ok : compF Try.prog 70 = some v_slot_check_1 := by kernel_rfl
def v_slot_far : VFn := ⟨.seq (.reg [⟨some 2, .mov (.c (.bool false)), none, [], []⟩])
(.seq (.reg [⟨some 3, .mov (.t 0), none, [], []⟩,
  ⟨some 4, .bin .lss (.t 3) (.c (.int .i64 (-1099511627776))), none, [0], []⟩,
  ⟨some 5, .mov (.t 4), none, [1], []⟩,
  ⟨some 6, .mov (.t 0), some (5, false), [2], []⟩,
  ⟨some 7, .bin .gtr (.t 6) (.c (.int .i64 1099511627776)), some (5, false), [3, 2], []⟩,
  ⟨some 8, .pick (.t 5) (.c (.bool true)) (.t 7), none, [2, 4], []⟩,
  ⟨some 2, .mov (.t 8), none, [5, 2, 0, 1, 2, 3, 4, 5], []⟩])
(.ret)),
[.t 2], 9⟩
theorem v_slot_far_ok : compF Try.prog 72 = some v_slot_far := by kernel_rfl
def v_slot_low_1 : VFn := ⟨.seq (.dreg [⟨some 9, .fad 0 (.t 1), none, [], []⟩,
  ⟨some 10, .load 1 false (.t 9), none, [0], []⟩,
  ⟨some 11, .load 1 false (.t 2), none, [], []⟩,
  ⟨some 12, .fad 0 (.t 1), none, [], []⟩,
  ⟨some 13, .load 1 false (.t 12), none, [3], []⟩,
  ⟨some 14, .call 75 [(.t 11), (.t 13)], none, [2, 4], []⟩,
  ⟨some 6, .alloc [(.int .i64 0), (.int .i64 0)], none, [], []⟩,
  ⟨some 5, .mov (.t 10), none, [1, 5, 0, 1, 6], []⟩,
  ⟨none, .store 2 (.t 6) (.t 14), none, [6, 5, 7, 0, 1, 2, 3, 4, 5, 6, 7], []⟩])
(.seq (.seq (.reg [⟨some 15, .load 1 false (.t 2), none, [], []⟩,
  ⟨some 16, .len (.t 15), none, [0], []⟩,
  ⟨some 17, .mov (.c (.int .i64 0)), none, [], []⟩])
(.block 0
  (.loop
    (.seq (.reg [⟨some 18, .bin .lss (.t 17) (.t 16), none, [], []⟩])
    (.seq (.cond (.t 18)
      (.skip)
      (.exit 0))
    (.seq (.block 1
      (.seq (.reg [⟨some 19, .iad 3 (.t 15) (.t 17), none, [], []⟩,
        ⟨some 20, .load 3 true (.t 19), none, [0], []⟩,
        ⟨some 8, .alloc [(.int .i64 0), (.int .i64 0), (.int .i64 0)], none, [], []⟩,
        ⟨none, .store 3 (.t 8) (.t 20), none, [2, 1, 0, 1, 2], []⟩])
      (.seq (.seq (.reg [⟨some 21, .fad 0 (.t 8), none, [], []⟩,
        ⟨some 22, .load 1 false (.t 21), none, [0], []⟩,
        ⟨some 23, .fad 0 (.t 1), none, [], []⟩,
        ⟨some 24, .load 1 false (.t 23), none, [2], []⟩,
        ⟨some 25, .bin .leq (.t 22) (.t 24), none, [1, 3], []⟩,
        ⟨some 26, .mov (.t 25), none, [4], []⟩,
        ⟨some 27, .fad 0 (.t 8), some (26, false), [5], []⟩,
        ⟨some 28, .load 1 false (.t 27), some (26, false), [6, 5], []⟩,
        ⟨some 29, .fad 1 (.t 1), some (26, false), [5], []⟩,
        ⟨some 30, .load 1 false (.t 29), some (26, false), [8, 5], []⟩,
        ⟨some 31, .bin .geq (.t 28) (.t 30), some (26, false), [7, 9, 5], []⟩,
        ⟨some 32, .pick (.t 26) (.c (.bool true)) (.t 31), none, [5, 10], []⟩])
      (.cond (.t 32)
        (.exit 1)
        (.skip)))
      (.seq (.seq (.reg [⟨some 33, .load 2 true (.t 3), none, [], []⟩,
        ⟨some 34, .load 2 true (.t 6), none, [], []⟩,
        ⟨some 35, .call 76 [(.t 33), (.t 34)], none, [0, 1], []⟩,
        ⟨some 36, .un .not (.t 35), none, [2], []⟩,
        ⟨some 37, .mov (.t 36), none, [3, 2], []⟩,
        ⟨some 38, .mov (.t 0), some (37, true), [4], []⟩,
        ⟨some 39, .mov (.t 5), some (37, true), [4], []⟩,
        ⟨some 40, .fad 0 (.t 8), some (37, true), [4], []⟩,
        ⟨some 41, .load 1 false (.t 40), some (37, true), [7, 4], []⟩,
        ⟨some 42, .build [(.int .i64 0), (.int .i64 0)] [(0, 1, (.t 39)), (1, 1, (.t 41))], some (37, true), [6, 8, 4], []⟩,
        ⟨some 43, .callv (.t 38) [(.t 42)], some (37, true), [5, 9, 4, 4], []⟩,
        ⟨some 44, .un .not (.t 43), some (37, true), [10, 4], []⟩,
        ⟨some 45, .pick (.t 37) (.t 44) (.c (.bool false)), none, [4, 11], []⟩])
      (.cond (.t 45)
        (.ret)
        (.skip)))
      (.dreg [⟨some 46, .fad 0 (.t 8), none, [], []⟩,
        ⟨some 47, .load 1 false (.t 46), none, [0], []⟩,
        ⟨some 48, .fad 1 (.t 8), none, [], []⟩,
        ⟨some 49, .load 2 true (.t 48), none, [2], []⟩,
        ⟨some 5, .mov (.t 47), none, [1, 0, 1], []⟩,
        ⟨none, .store 2 (.t 6) (.t 49), none, [3, 4, 0, 1, 2, 3, 4], []⟩])))))
    (.reg [⟨some 50, .bin .add (.t 17) (.c (.int .i64 1)), none, [], []⟩,
      ⟨some 17, .mov (.t 50), none, [0], []⟩])))))))
(.seq (.reg [⟨some 51, .load 2 true (.t 3), none, [], []⟩,
  ⟨some 52, .load 2 true (.t 6), none, [], []⟩,
  ⟨some 53, .call 76 [(.t 51), (.t 52)], none, [0, 1], []⟩,
  ⟨some 54, .un .not (.t 53), none, [2], []⟩])
(.cond (.t 54)
  (.reg [⟨some 55, .mov (.t 0), none, [], []⟩,
    ⟨some 56, .mov (.t 5), none, [], []⟩,
    ⟨some 57, .fad 1 (.t 1), none, [], []⟩,
    ⟨some 58, .load 1 false (.t 57), none, [2], []⟩,
    ⟨some 59, .build [(.int .i64 0), (.int .i64 0)] [(0, 1, (.t 56)), (1, 1, (.t 58))], none, [1, 3], []⟩,
    ⟨some 60, .callv (.t 55) [(.t 59)], none, [0, 4], []⟩])
  (.skip)))),
[], 61⟩
theorem v_slot_low_1_ok : compF Try.prog 74 = some v_slot_low_1 := by kernel_rfl
end Go.Proofs.Ytglekfgoadehbaa.V
end
section
set_option linter.unusedSimpArgs false
set_option linter.unusedVariables false
/- What the package slot's functions compute: Length, far, check, without, end. -/
namespace Go.Proofs.Ytglekfgoadehbaa.V
open Go Go.Proofs
set_option maxRecDepth 100000
set_option maxHeartbeats 4000000
theorem Length_v (l : List Leg) (hn : l.length ≤ 1000000000) (t : Tok) : VPure Try.prog 47 [.sl (l.map Leg.a) t] (.tup [num (lengthF l).1, num (lengthF l).2]) := by
  refine VPure.of v_slot_Length_ok (Nat.le_of_ble_eq_true rfl) (fun Z st => ?_)
  have HB : Hid (∀ k (h : k < l.length), badD l[k] = true → lengthF l = (0, 2)) := ⟨fun k h hb => by
    have : l.any badD = true := List.any_eq_true.2 ⟨_, List.getElem_mem h, hb⟩
    simp [lengthF, this]⟩
  simp only [v_slot_Length, ↓vD, vU, ↓vMd, vMu, VE.ev, VE.evs, retvs, tupOf, grab, vfill, vbsl, eqCells, eqCell, veqs, veqs1, vmnx, AV.isCell, AV.isUndef, Nat.reduceEqDiff, Nat.reduceAdd, Nat.reduceSub, Nat.reduceLeDiff, Nat.reduceLT, reduceIte, reduceCtorEq, Nat.reduceBEq, k_app, k_slc1]
  (repeat' (first | (simp (config := { maxDischargeDepth := 16 }) only [*, num, vX, Int.reduceLE, Int.reduceLT, Int.reduceGE, Int.reduceGT, Int.reduceBEq, Int.reduceBNe, Int.reduceAdd, Int.reduceSub, Int.reduceMul, Int.reduceNeg, ↓vD, vU, ↓vMd, vMu, VE.ev, VE.evs, retvs, tupOf, grab, vfill, vbsl, eqCells, eqCell, veqs, veqs1, vmnx, AV.isCell, AV.isUndef, Nat.reduceEqDiff, Nat.reduceAdd, Nat.reduceSub, Nat.reduceLeDiff, Nat.reduceLT, reduceIte, reduceCtorEq, Nat.reduceBEq]) | (simp (disch := first | assumption | omega | exact Seg.len _ | exact Vec.len _ | exact Leg.len _ | exact num_len _ | exact rowA_len _ | exact rowA_len | exact rowT_len _ | exact rowT_len | exact Seg.len | exact Vec.len | exact Leg.len | exact num_len | exact AV.slen _ _ | rfl) only [num, vP]) | ((with_reducible first | refine gsnd ?_ ?_ | refine csnd ?_ ?_ | refine gsd ?_ ?_ | refine csd ?_ ?_ | refine gsn ?_ ?_ | refine csn ?_ ?_ | refine gs ?_ ?_ | refine cs_ ?_ ?_) <;> intro _) | (with_reducible refine objQ_i (fun _ _ => ?_); (repeat (with_reducible refine imp_i (fun _ => ?_))))))
  refine loopf_of (len := l.length) (by simp only [asgL, dsts, List.cons_append, List.nil_append, List.append_nil]; rfl) (by simp only [noR, Bool.and_true, Bool.and_false]; rfl) (by omega) (fun k fr s => ∃ n, s = st ∧ fr.t 9 = .int .i64 k ∧ fr.t 4 = .int .i64 n ∧ Hid (n = sumD (l.take k) ∧ (l.take k).any badD = false) ∧ 0 ≤ n ∧ n ≤ 4096 * k) ?_ ?_ ?_
  · exact ⟨0, rfl, by simp [↓vD, vU, ↓vMd, vMu, VE.ev, VE.evs, retvs, tupOf, grab, vfill, vbsl, eqCells, eqCell, veqs, veqs1, vmnx, AV.isCell, AV.isUndef, Nat.reduceEqDiff, Nat.reduceAdd, Nat.reduceSub, Nat.reduceLeDiff, Nat.reduceLT, reduceIte, reduceCtorEq, Nat.reduceBEq, k_app, k_slc1], by simp [↓vD, vU, ↓vMd, vMu, VE.ev, VE.evs, retvs, tupOf, grab, vfill, vbsl, eqCells, eqCell, veqs, veqs1, vmnx, AV.isCell, AV.isUndef, Nat.reduceEqDiff, Nat.reduceAdd, Nat.reduceSub, Nat.reduceLeDiff, Nat.reduceLT, reduceIte, reduceCtorEq, Nat.reduceBEq, k_app, k_slc1], ⟨by simp [sumD]⟩, by omega, by omega⟩
  · rintro k fr s hk hw hfr hd ⟨n, rfl, h9, h4, HK, h0, hmx⟩
    obtain ⟨x, hx⟩ : ∃ x, l[k] = x := ⟨_, rfl⟩
    have HX := Hid.mk hx
    (repeat' (first | (simp (config := { maxDischargeDepth := 16 }) only [*, Leg.a, num, vX, Int.reduceLE, Int.reduceLT, Int.reduceGE, Int.reduceGT, Int.reduceBEq, Int.reduceBNe, Int.reduceAdd, Int.reduceSub, Int.reduceMul, Int.reduceNeg, ↓vD, vU, ↓vMd, vMu, VE.ev, VE.evs, retvs, tupOf, grab, vfill, vbsl, eqCells, eqCell, veqs, veqs1, vmnx, AV.isCell, AV.isUndef, Nat.reduceEqDiff, Nat.reduceAdd, Nat.reduceSub, Nat.reduceLeDiff, Nat.reduceLT, reduceIte, reduceCtorEq, Nat.reduceBEq]) | (simp (disch := first | assumption | omega | exact Seg.len _ | exact Vec.len _ | exact Leg.len _ | exact num_len _ | exact rowA_len _ | exact rowA_len | exact rowT_len _ | exact rowT_len | exact Seg.len | exact Vec.len | exact Leg.len | exact num_len | exact AV.slen _ _ | rfl) only [Leg.a, num, vP]) | ((with_reducible first | refine gsnd ?_ ?_ | refine csnd ?_ ?_ | refine gsd ?_ ?_ | refine csd ?_ ?_ | refine gsn ?_ ?_ | refine csn ?_ ?_ | refine gs ?_ ?_ | refine cs_ ?_ ?_) <;> intro _) | (with_reducible refine objQ_i (fun _ _ => ?_); (repeat (with_reducible refine imp_i (fun _ => ?_))))))
    · rw [HB.out k hk (by rw [HX.out]; simp only [badD, Bool.or_eq_true, decide_eq_true_eq]; omega)]
    · rw [HB.out k hk (by rw [HX.out]; simp only [badD, Bool.or_eq_true, decide_eq_true_eq]; omega)]
    · rename_i h1 h2
      refine ⟨s, by (refine ⟨fun i o e => ?_, fun _ h => h⟩; revert e; simp only [St.ins, St.del, add_objs, kill_objs]; (repeat' split); all_goals (first | exact id | (intros; contradiction) | (intros; subst_vars; contradiction) | (intros; simp_all; done) | (intros; subst_vars; simp_all; done))), n + x.d, rfl, rfl, ⟨by rw [sumD_take hk, HX.out, HK.out.1], ?_⟩, by omega, by omega⟩
      rw [List.take_add_one, List.getElem?_eq_getElem hk, List.any_append, HK.out.2, HX.out]
      simp [badD]; omega
  · rintro fr s hfr hd ⟨n, rfl, h9, h4, HK, h0, hmx⟩
    have hk := HK.out
    rw [List.take_length] at hk
    have e : lengthF l = if l.length = 0 ∨ 16 < l.length then (0, 2) else (n, 0) := by
      unfold lengthF; rw [hk.2, ← hk.1]; simp only [Bool.false_or, Bool.or_eq_true, decide_eq_true_eq]
    clear hk HK
    by_cases hz : l.length = 0
    · rw [if_pos (.inl hz)] at e
      rw [e]
      clear e
      (repeat' (first | (simp (config := { maxDischargeDepth := 16 }) only [*, num, vX, Int.reduceLE, Int.reduceLT, Int.reduceGE, Int.reduceGT, Int.reduceBEq, Int.reduceBNe, Int.reduceAdd, Int.reduceSub, Int.reduceMul, Int.reduceNeg, ↓vD, vU, ↓vMd, vMu, VE.ev, VE.evs, retvs, tupOf, grab, vfill, vbsl, eqCells, eqCell, veqs, veqs1, vmnx, AV.isCell, AV.isUndef, Nat.reduceEqDiff, Nat.reduceAdd, Nat.reduceSub, Nat.reduceLeDiff, Nat.reduceLT, reduceIte, reduceCtorEq, Nat.reduceBEq]) | (simp (disch := first | assumption | omega | exact Seg.len _ | exact Vec.len _ | exact Leg.len _ | exact num_len _ | exact rowA_len _ | exact rowA_len | exact rowT_len _ | exact rowT_len | exact Seg.len | exact Vec.len | exact Leg.len | exact num_len | exact AV.slen _ _ | rfl) only [num, vP]) | ((with_reducible first | refine gsnd ?_ ?_ | refine csnd ?_ ?_ | refine gsd ?_ ?_ | refine csd ?_ ?_ | refine gsn ?_ ?_ | refine csn ?_ ?_ | refine gs ?_ ?_ | refine cs_ ?_ ?_) <;> intro _) | (with_reducible refine objQ_i (fun _ _ => ?_); (repeat (with_reducible refine imp_i (fun _ => ?_))))))
    · by_cases h16 : 16 < l.length
      · rw [if_pos (.inr h16)] at e
        rw [e]
        clear e
        (repeat' (first | (simp (config := { maxDischargeDepth := 16 }) only [*, num, vX, Int.reduceLE, Int.reduceLT, Int.reduceGE, Int.reduceGT, Int.reduceBEq, Int.reduceBNe, Int.reduceAdd, Int.reduceSub, Int.reduceMul, Int.reduceNeg, ↓vD, vU, ↓vMd, vMu, VE.ev, VE.evs, retvs, tupOf, grab, vfill, vbsl, eqCells, eqCell, veqs, veqs1, vmnx, AV.isCell, AV.isUndef, Nat.reduceEqDiff, Nat.reduceAdd, Nat.reduceSub, Nat.reduceLeDiff, Nat.reduceLT, reduceIte, reduceCtorEq, Nat.reduceBEq]) | (simp (disch := first | assumption | omega | exact Seg.len _ | exact Vec.len _ | exact Leg.len _ | exact num_len _ | exact rowA_len _ | exact rowA_len | exact rowT_len _ | exact rowT_len | exact Seg.len | exact Vec.len | exact Leg.len | exact num_len | exact AV.slen _ _ | rfl) only [num, vP]) | ((with_reducible first | refine gsnd ?_ ?_ | refine csnd ?_ ?_ | refine gsd ?_ ?_ | refine csd ?_ ?_ | refine gsn ?_ ?_ | refine csn ?_ ?_ | refine gs ?_ ?_ | refine cs_ ?_ ?_) <;> intro _) | (with_reducible refine objQ_i (fun _ _ => ?_); (repeat (with_reducible refine imp_i (fun _ => ?_))))))
      · rw [if_neg (by omega)] at e
        rw [e]
        clear e
        (repeat' (first | (simp (config := { maxDischargeDepth := 16 }) only [*, num, vX, Int.reduceLE, Int.reduceLT, Int.reduceGE, Int.reduceGT, Int.reduceBEq, Int.reduceBNe, Int.reduceAdd, Int.reduceSub, Int.reduceMul, Int.reduceNeg, ↓vD, vU, ↓vMd, vMu, VE.ev, VE.evs, retvs, tupOf, grab, vfill, vbsl, eqCells, eqCell, veqs, veqs1, vmnx, AV.isCell, AV.isUndef, Nat.reduceEqDiff, Nat.reduceAdd, Nat.reduceSub, Nat.reduceLeDiff, Nat.reduceLT, reduceIte, reduceCtorEq, Nat.reduceBEq]) | (simp (disch := first | assumption | omega | exact Seg.len _ | exact Vec.len _ | exact Leg.len _ | exact num_len _ | exact rowA_len _ | exact rowA_len | exact rowT_len _ | exact rowT_len | exact Seg.len | exact Vec.len | exact Leg.len | exact num_len | exact AV.slen _ _ | rfl) only [num, vP]) | ((with_reducible first | refine gsnd ?_ ?_ | refine csnd ?_ ?_ | refine gsd ?_ ?_ | refine csd ?_ ?_ | refine gsn ?_ ?_ | refine csn ?_ ?_ | refine gs ?_ ?_ | refine cs_ ?_ ?_) <;> intro _) | (with_reducible refine objQ_i (fun _ _ => ?_); (repeat (with_reducible refine imp_i (fun _ => ?_))))))
theorem far_v (n : Int) : VPure Try.prog 72 [.int .i64 n] (.bool (farF n)) := by
  refine VPure.of v_slot_far_ok (Nat.le_of_ble_eq_true rfl) (fun Z st => ?_)
  simp only [v_slot_far, ↓vD, vU, ↓vMd, vMu, VE.ev, VE.evs, retvs, tupOf, grab, vfill, vbsl, eqCells, eqCell, veqs, veqs1, vmnx, AV.isCell, AV.isUndef, Nat.reduceEqDiff, Nat.reduceAdd, Nat.reduceSub, Nat.reduceLeDiff, Nat.reduceLT, reduceIte, reduceCtorEq, Nat.reduceBEq, k_app, k_slc1]
  (repeat' (first | (simp (config := { maxDischargeDepth := 16 }) only [*, farF, ↓vD, vU, ↓vMd, vMu, VE.ev, VE.evs, retvs, tupOf, grab, vfill, vbsl, eqCells, eqCell, veqs, veqs1, vmnx, AV.isCell, AV.isUndef, Nat.reduceEqDiff, Nat.reduceAdd, Nat.reduceSub, Nat.reduceLeDiff, Nat.reduceLT, reduceIte, reduceCtorEq, Nat.reduceBEq, k_app, k_slc1]) | (with_reducible refine gs (fun _ => ?_) (fun _ => ?_)) | (with_reducible refine cs_ (fun _ => ?_) (fun _ => ?_)) | (with_reducible refine objQ_i (fun _ _ => ?_); (repeat (with_reducible refine imp_i (fun _ => ?_)))) | (with_reducible refine appK_a ?_)))
  all_goals simp_all
theorem check1_v (x : Leg) : VPure Try.prog 70 [Leg.a x] (.bool (!mayV x.v)) := by
  refine VPure.of v_slot_check_1_ok (Nat.le_of_ble_eq_true rfl) (fun Z st => ?_)
  simp only [v_slot_check_1, ↓vD, vU, ↓vMd, vMu, VE.ev, VE.evs, retvs, tupOf, grab, vfill, vbsl, eqCells, eqCell, veqs, veqs1, vmnx, AV.isCell, AV.isUndef, Nat.reduceEqDiff, Nat.reduceAdd, Nat.reduceSub, Nat.reduceLeDiff, Nat.reduceLT, reduceIte, reduceCtorEq, Nat.reduceBEq, k_app, k_slc1]
  (repeat' (first | (simp (config := { maxDischargeDepth := 16 }) only [*, Leg.a, ↓vD, vU, ↓vMd, vMu, VE.ev, VE.evs, retvs, tupOf, grab, vfill, vbsl, eqCells, eqCell, veqs, veqs1, vmnx, AV.isCell, AV.isUndef, Nat.reduceEqDiff, Nat.reduceAdd, Nat.reduceSub, Nat.reduceLeDiff, Nat.reduceLT, reduceIte, reduceCtorEq, Nat.reduceBEq, k_app, k_slc1]) | (with_reducible refine gs (fun _ => ?_) (fun _ => ?_)) | (with_reducible refine cs_ (fun _ => ?_) (fun _ => ?_)) | (with_reducible refine objQ_i (fun _ _ => ?_); (repeat (with_reducible refine imp_i (fun _ => ?_)))) | (with_reducible refine appK_a ?_) | (with_reducible first | refine callH_use (May_v _ _) ?_ | refine pureQ_use (May_v _ _) ?_)))
theorem u64_sub {m c : Int} (h1 : -9223372036854775808 ≤ m) (h2 : c ≤ 9223372036854775807) (h : m < c) : IntKind.u64.wrap (IntKind.i64.wrap (c - m)) = c - m := by
  simp only [IntKind.wrap, IntKind.bits, IntKind.signed]
  simp
  omega
theorem check_v (f : List Seg) (hf : f.length ≤ 1000000000) (w : Vec) (h1 : -9223372036854775808 ≤ w.m) (h2 : w.c ≤ 9223372036854775807) (l : List Leg) (hl : l.length ≤ 1000000000) (t t' : Tok) :
    VPure Try.prog 41 [.sl (f.map Seg.a) t, .agg [.int .i64 w.m, .int .i64 w.c], .sl (l.map Leg.a) t'] (.tup [num (checkF f w l).1, num (checkF f w l).2]) := by
  refine VPure.of v_slot_check_ok (Nat.le_of_ble_eq_true rfl) (fun Z st => ?_)
  have hm := May_F f (by omega) t
  have hL := Length_v l hl t'
  have hc := contains_pLeg (f := 70) (fs := []) (cs := []) l (by omega) t' (fun x => !mayV x.v) check1_v
  obtain ⟨q, hq⟩ : ∃ q, lengthF l = q := ⟨_, rfl⟩
  obtain ⟨g, hg⟩ : ∃ g, l.any (fun x => !mayV x.v) = g := ⟨_, rfl⟩
  obtain ⟨mf, hmf⟩ : ∃ m, mayF f = m := ⟨_, rfl⟩
  rw [hq] at hL
  rw [hg] at hc
  rw [hmf] at hm
  have HC : Hid (checkF f w l = if mf then (if q.2 ≠ 0 ∨ w.c ≤ w.m ∨ 4096 < w.c - w.m then (0, 2) else if farF w.m || farF w.c || g then (0, 10) else (q.1, 0)) else (0, 5)) := ⟨by unfold checkF; rw [hq, hg, hmf]⟩
  clear hq hg hmf
  unfold num at hL
  obtain ⟨a, ha⟩ : ∃ a, farF w.m = a := ⟨_, rfl⟩
  obtain ⟨b, hb⟩ : ∃ b, farF w.c = b := ⟨_, rfl⟩
  have f1 := far_v w.m
  have f2 := far_v w.c
  rw [ha] at f1 HC
  rw [hb] at f2 HC
  clear ha hb
  simp only [v_slot_check, ↓vD, vU, ↓vMd, vMu, VE.ev, VE.evs, retvs, tupOf, grab, vfill, vbsl, eqCells, eqCell, veqs, veqs1, vmnx, AV.isCell, AV.isUndef, Nat.reduceEqDiff, Nat.reduceAdd, Nat.reduceSub, Nat.reduceLeDiff, Nat.reduceLT, reduceIte, reduceCtorEq, Nat.reduceBEq, k_app, k_slc1]
  cases mf with
  | false =>
    (repeat' (first | (simp (config := { maxDischargeDepth := 16 }) only [*, num, vX, Int.reduceLE, Int.reduceLT, Int.reduceGE, Int.reduceGT, Int.reduceBEq, Int.reduceBNe, Int.reduceAdd, Int.reduceSub, Int.reduceMul, Int.reduceNeg, ↓vD, vU, ↓vMd, vMu, VE.ev, VE.evs, retvs, tupOf, grab, vfill, vbsl, eqCells, eqCell, veqs, veqs1, vmnx, AV.isCell, AV.isUndef, Nat.reduceEqDiff, Nat.reduceAdd, Nat.reduceSub, Nat.reduceLeDiff, Nat.reduceLT, reduceIte, reduceCtorEq, Nat.reduceBEq]) | (simp (disch := first | assumption | omega | exact Seg.len _ | exact Vec.len _ | exact Leg.len _ | exact num_len _ | exact rowA_len _ | exact rowA_len | exact rowT_len _ | exact rowT_len | exact Seg.len | exact Vec.len | exact Leg.len | exact num_len | exact AV.slen _ _ | rfl) only [num, vP]) | ((with_reducible first | refine gsnd ?_ ?_ | refine csnd ?_ ?_ | refine gsd ?_ ?_ | refine csd ?_ ?_ | refine gsn ?_ ?_ | refine csn ?_ ?_ | refine gs ?_ ?_ | refine cs_ ?_ ?_) <;> intro _) | (with_reducible refine objQ_i (fun _ _ => ?_); (repeat (with_reducible refine imp_i (fun _ => ?_)))) | (with_reducible first | refine callH_use (hm) ?_ | refine pureQ_use (hm) ?_)))
    rw [HC.out]; simp
  | true =>
    by_cases hq : q.2 = 0
    case neg =>
      (repeat' (first | (simp (config := { maxDischargeDepth := 16 }) only [*, num, vX, Int.reduceLE, Int.reduceLT, Int.reduceGE, Int.reduceGT, Int.reduceBEq, Int.reduceBNe, Int.reduceAdd, Int.reduceSub, Int.reduceMul, Int.reduceNeg, ↓vD, vU, ↓vMd, vMu, VE.ev, VE.evs, retvs, tupOf, grab, vfill, vbsl, eqCells, eqCell, veqs, veqs1, vmnx, AV.isCell, AV.isUndef, Nat.reduceEqDiff, Nat.reduceAdd, Nat.reduceSub, Nat.reduceLeDiff, Nat.reduceLT, reduceIte, reduceCtorEq, Nat.reduceBEq]) | (simp (disch := first | assumption | omega | exact Seg.len _ | exact Vec.len _ | exact Leg.len _ | exact num_len _ | exact rowA_len _ | exact rowA_len | exact rowT_len _ | exact rowT_len | exact Seg.len | exact Vec.len | exact Leg.len | exact num_len | exact AV.slen _ _ | rfl) only [num, vP]) | ((with_reducible first | refine gsnd ?_ ?_ | refine csnd ?_ ?_ | refine gsd ?_ ?_ | refine csd ?_ ?_ | refine gsn ?_ ?_ | refine csn ?_ ?_ | refine gs ?_ ?_ | refine cs_ ?_ ?_) <;> intro _) | (with_reducible refine objQ_i (fun _ _ => ?_); (repeat (with_reducible refine imp_i (fun _ => ?_)))) | (with_reducible first | refine callH_use (hm) ?_ | refine pureQ_use (hm) ?_) | (with_reducible first | refine callH_use (hL) ?_ | refine pureQ_use (hL) ?_)))
      all_goals (rw [HC.out]; simp [hq])
    by_cases hw : w.m < w.c
    case neg =>
      have e : checkF f w l = (0, 2) := by rw [HC.out]; simp; intros; omega
      clear HC
      rw [e]
      (repeat' (first | (simp (config := { maxDischargeDepth := 16 }) only [*, num, vX, Int.reduceLE, Int.reduceLT, Int.reduceGE, Int.reduceGT, Int.reduceBEq, Int.reduceBNe, Int.reduceAdd, Int.reduceSub, Int.reduceMul, Int.reduceNeg, ↓vD, vU, ↓vMd, vMu, VE.ev, VE.evs, retvs, tupOf, grab, vfill, vbsl, eqCells, eqCell, veqs, veqs1, vmnx, AV.isCell, AV.isUndef, Nat.reduceEqDiff, Nat.reduceAdd, Nat.reduceSub, Nat.reduceLeDiff, Nat.reduceLT, reduceIte, reduceCtorEq, Nat.reduceBEq]) | (simp (disch := first | assumption | omega | exact Seg.len _ | exact Vec.len _ | exact Leg.len _ | exact num_len _ | exact rowA_len _ | exact rowA_len | exact rowT_len _ | exact rowT_len | exact Seg.len | exact Vec.len | exact Leg.len | exact num_len | exact AV.slen _ _ | rfl) only [num, vP]) | ((with_reducible first | refine gsnd ?_ ?_ | refine csnd ?_ ?_ | refine gsd ?_ ?_ | refine csd ?_ ?_ | refine gsn ?_ ?_ | refine csn ?_ ?_ | refine gs ?_ ?_ | refine cs_ ?_ ?_) <;> intro _) | (with_reducible refine objQ_i (fun _ _ => ?_); (repeat (with_reducible refine imp_i (fun _ => ?_)))) | (with_reducible first | refine callH_use (hm) ?_ | refine pureQ_use (hm) ?_) | (with_reducible first | refine callH_use (hL) ?_ | refine pureQ_use (hL) ?_)))
    have hu := u64_sub h1 h2 hw
    by_cases hbig : 4096 < w.c - w.m
    · have hdec : decide (4096 < w.c - w.m) = true := by simpa using hbig
      (repeat' (first | (simp (config := { maxDischargeDepth := 16 }) only [*, num, hu, vX, Int.reduceLE, Int.reduceLT, Int.reduceGE, Int.reduceGT, Int.reduceBEq, Int.reduceBNe, Int.reduceAdd, Int.reduceSub, Int.reduceMul, Int.reduceNeg, ↓vD, vU, ↓vMd, vMu, VE.ev, VE.evs, retvs, tupOf, grab, vfill, vbsl, eqCells, eqCell, veqs, veqs1, vmnx, AV.isCell, AV.isUndef, Nat.reduceEqDiff, Nat.reduceAdd, Nat.reduceSub, Nat.reduceLeDiff, Nat.reduceLT, reduceIte, reduceCtorEq, Nat.reduceBEq]) | (simp (disch := first | assumption | omega | exact Seg.len _ | exact Vec.len _ | exact Leg.len _ | exact num_len _ | exact rowA_len _ | exact rowA_len | exact rowT_len _ | exact rowT_len | exact Seg.len | exact Vec.len | exact Leg.len | exact num_len | exact AV.slen _ _ | rfl) only [num, hu, vP]) | ((with_reducible first | refine gsnd ?_ ?_ | refine csnd ?_ ?_ | refine gsd ?_ ?_ | refine csd ?_ ?_ | refine gsn ?_ ?_ | refine csn ?_ ?_ | refine gs ?_ ?_ | refine cs_ ?_ ?_) <;> intro _) | (with_reducible refine objQ_i (fun _ _ => ?_); (repeat (with_reducible refine imp_i (fun _ => ?_)))) | (with_reducible first | refine callH_use (hm) ?_ | refine pureQ_use (hm) ?_) | (with_reducible first | refine callH_use (hL) ?_ | refine pureQ_use (hL) ?_)))
      all_goals (rw [HC.out]; simp [hbig])
    have hw2 : IntKind.i64.wrap (w.c - w.m) = w.c - w.m := wrap_i64 _ (by omega) (by omega)
    rw [hw2] at hu
    have HN : Hid (checkF f w l = if a || b || g then (0, 10) else (q.1, 0)) := ⟨by rw [HC.out]; simp [hq]; intro h; omega⟩
    clear HC
    cases a <;> cases b <;> cases g <;> ((repeat' (first | (simp (config := { maxDischargeDepth := 16 }) only [*, num, hu, vX, Int.reduceLE, Int.reduceLT, Int.reduceGE, Int.reduceGT, Int.reduceBEq, Int.reduceBNe, Int.reduceAdd, Int.reduceSub, Int.reduceMul, Int.reduceNeg, ↓vD, vU, ↓vMd, vMu, VE.ev, VE.evs, retvs, tupOf, grab, vfill, vbsl, eqCells, eqCell, veqs, veqs1, vmnx, AV.isCell, AV.isUndef, Nat.reduceEqDiff, Nat.reduceAdd, Nat.reduceSub, Nat.reduceLeDiff, Nat.reduceLT, reduceIte, reduceCtorEq, Nat.reduceBEq]) | (simp (disch := first | assumption | omega | exact Seg.len _ | exact Vec.len _ | exact Leg.len _ | exact num_len _ | exact rowA_len _ | exact rowA_len | exact rowT_len _ | exact rowT_len | exact Seg.len | exact Vec.len | exact Leg.len | exact num_len | exact AV.slen _ _ | rfl) only [num, hu, vP]) | ((with_reducible first | refine gsnd ?_ ?_ | refine csnd ?_ ?_ | refine gsd ?_ ?_ | refine csd ?_ ?_ | refine gsn ?_ ?_ | refine csn ?_ ?_ | refine gs ?_ ?_ | refine cs_ ?_ ?_) <;> intro _) | (with_reducible refine objQ_i (fun _ _ => ?_); (repeat (with_reducible refine imp_i (fun _ => ?_)))) | (with_reducible first | refine callH_use (hm) ?_ | refine pureQ_use (hm) ?_) | (with_reducible first | refine callH_use (hL) ?_ | refine pureQ_use (hL) ?_) | (with_reducible first | refine callH_use (f1) ?_ | refine pureQ_use (f1) ?_) | (with_reducible first | refine callH_use (f2) ?_ | refine pureQ_use (f2) ?_) | (with_reducible first | refine callH_use (hc) ?_ | refine pureQ_use (hc) ?_))))
    all_goals (first | rw [HN.out]; simp)
theorem cut0 (xs : List AV) (t : Tok) (q q' : IntKind) : vslc (.sl xs t) none (some (.int q 0)) (some (.int q' 0)) = some (.sl [] .full) := by
  simp [vslc, bnd]
theorem grab01 (a b c d : AV) : vixa 2 2 true (.agg [a, b, c, d]) (.int .i64 0) = some (.agg [a, b]) := rfl
theorem grab23 (a b c d : AV) : vixa 2 2 true (.agg [a, b, c, d]) (.int .i64 1) = some (.agg [c, d]) := rfl
end Go.Proofs.Ytglekfgoadehbaa.V
end
section
set_option linter.unusedSimpArgs false
set_option linter.unusedVariables false
/- The compiled functions of the package cost (printed by Print.lean of this work). -/
namespace Go.Proofs.Ytglekfgoadehbaa.V
open Go Go.Proofs
def v_cost_Best : VFn := ⟨.seq (.reg [⟨some 7, .box (.t 2), none, [], []⟩,
  ⟨some 10, .mov (.c (.sl [] .full)), none, [], []⟩,
  ⟨some 11, .mov (.c (.int .i64 0)), none, [1], []⟩])
(.seq (.reg [⟨some 16, .mov (.t 0), none, [], []⟩,
  ⟨some 17, .mov (.t 1), none, [], []⟩,
  ⟨some 18, .load 2 true (.t 7), none, [], []⟩,
  ⟨some 19, .mov (.t 3), none, [], []⟩,
  ⟨some 20, .call 37 [(.t 16), (.t 17), (.t 18), (.t 19)], none, [0, 1, 2, 3], []⟩,
  ⟨some 15, .mov (.t 20), none, [4], []⟩,
  ⟨some 21, .ext (.t 15) 0, none, [5], []⟩,
  ⟨some 22, .ext (.t 15) 1, none, [5], []⟩,
  ⟨some 23, .ext (.t 15) 2, none, [5], []⟩,
  ⟨some 13, .alloc [.nilf], none, [], []⟩,
  ⟨some 12, .mov (.t 21), none, [6, 4, 0, 1, 2, 3, 4, 5, 6, 9], []⟩,
  ⟨none, .store 1 (.t 13) (.t 22), none, [9, 7, 10, 0, 1, 2, 3, 4, 5, 6, 7, 9, 10], []⟩,
  ⟨some 14, .mov (.t 23), none, [8, 11, 0, 1, 2, 3, 4, 5, 6, 7, 8, 9, 10, 11], []⟩])
(.seq (.block 0
  (.seq (.reg [⟨some 25, .mov (.t 14), none, [], []⟩,
    ⟨some 26, .bin .eql (.t 25) (.c (.int .i64 5)), none, [0], []⟩,
    ⟨some 24, .mov (.t 26), none, [1], []⟩])
  (.cond (.t 24)
    (.seq (.reg [⟨some 27, .mov (.t 14), none, [], []⟩,
      ⟨some 10, .mov (.c (.sl [] .full)), none, [], []⟩,
      ⟨some 11, .mov (.t 27), none, [0, 1, 0, 1], []⟩])
    (.ret))
    (.seq (.reg [⟨some 29, .mov (.t 4), none, [], []⟩,
      ⟨some 30, .bin .lss (.t 29) (.c (.int .i64 1)), none, [0], []⟩,
      ⟨some 31, .mov (.t 30), none, [1], []⟩,
      ⟨some 32, .mov (.t 4), some (31, false), [2], []⟩,
      ⟨some 33, .bin .gtr (.t 32) (.c (.int .i64 64)), some (31, false), [3, 2], []⟩,
      ⟨some 34, .pick (.t 31) (.c (.bool true)) (.t 33), none, [2, 4], []⟩,
      ⟨some 28, .mov (.t 34), none, [5, 2], []⟩])
    (.cond (.t 28)
      (.seq (.reg [⟨some 10, .mov (.c (.sl [] .full)), none, [], []⟩,
        ⟨some 11, .mov (.c (.int .i64 2)), none, [0, 0], []⟩])
      (.ret))
      (.seq (.reg [⟨some 36, .mov (.t 14), none, [], []⟩,
        ⟨some 37, .bin .neq (.t 36) (.c (.int .i64 0)), none, [0], []⟩,
        ⟨some 35, .mov (.t 37), none, [1], []⟩])
      (.cond (.t 35)
        (.seq (.reg [⟨some 38, .mov (.t 14), none, [], []⟩,
          ⟨some 10, .mov (.c (.sl [] .full)), none, [], []⟩,
          ⟨some 11, .mov (.t 38), none, [0, 1, 0, 1], []⟩])
        (.ret))
        (.skip))))))))
(.seq (.reg [⟨some 39, .mov (.t 12), none, [], []⟩,
  ⟨some 40, .mkf 39 [] [(.t 13)], none, [], []⟩,
  ⟨some 41, .call 38 [(.t 39), (.t 40)], none, [0, 1], []⟩])
(.seq (.reg [⟨some 42, .mov (.t 12), none, [], []⟩,
  ⟨some 43, .mov (.t 4), none, [], []⟩,
  ⟨some 44, .mov (.t 12), none, [], []⟩,
  ⟨some 45, .len (.t 44), none, [2], []⟩,
  ⟨some 46, .mnx true (.t 43) [(.t 45)], none, [1, 3], []⟩,
  ⟨some 47, .mov (.t 4), none, [], []⟩,
  ⟨some 48, .mov (.t 12), none, [], []⟩,
  ⟨some 49, .len (.t 48), none, [6], []⟩,
  ⟨some 50, .mnx true (.t 47) [(.t 49)], none, [5, 7], []⟩,
  ⟨some 51, .slc 1 (.t 42) none (some (.t 46)) (some (.t 50)), none, [0, 4, 8], []⟩,
  ⟨some 10, .mov (.t 51), none, [9, 0, 1, 2, 3, 4, 5, 6, 7, 8, 9], []⟩,
  ⟨some 11, .mov (.c (.int .i64 0)), none, [10, 0, 1, 2, 3, 4, 5, 6, 7, 8, 9, 10], []⟩])
(.ret))))),
[.t 10, .t 11], 52⟩
theorem v_cost_Best_ok : compF Try.prog 22 = some v_cost_Best := by kernel_rfl
def v_cost_Cheapest : VFn := ⟨.seq (.reg [⟨some 6, .box (.t 2), none, [], []⟩,
  ⟨some 8, .mov (.c (.int .i64 0)), none, [], []⟩,
  ⟨some 9, .mov (.c (.int .i64 0)), none, [1], []⟩,
  ⟨some 10, .mov (.c (.int .i64 0)), none, [2], []⟩])
(.seq (.reg [⟨some 14, .mov (.t 0), none, [], []⟩,
  ⟨some 15, .mov (.t 1), none, [], []⟩,
  ⟨some 16, .load 2 true (.t 6), none, [], []⟩,
  ⟨some 17, .mov (.t 3), none, [], []⟩,
  ⟨some 18, .call 37 [(.t 14), (.t 15), (.t 16), (.t 17)], none, [0, 1, 2, 3], []⟩,
  ⟨some 13, .mov (.t 18), none, [4], []⟩,
  ⟨some 19, .ext (.t 13) 0, none, [5], []⟩,
  ⟨some 20, .ext (.t 13) 1, none, [5], []⟩,
  ⟨some 21, .ext (.t 13) 2, none, [5], []⟩,
  ⟨some 12, .alloc [.nilf], none, [], []⟩,
  ⟨some 11, .mov (.t 19), none, [6, 4, 0, 1, 2, 3, 4, 5, 6, 9], []⟩,
  ⟨none, .store 1 (.t 12) (.t 20), none, [9, 7, 10, 0, 1, 2, 3, 4, 5, 6, 7, 9, 10], []⟩,
  ⟨some 10, .mov (.t 21), none, [8, 11, 0, 1, 2, 3, 4, 5, 6, 7, 8, 9, 10, 11], []⟩])
(.seq (.seq (.reg [⟨some 22, .mov (.t 10), none, [], []⟩,
  ⟨some 23, .bin .neq (.t 22) (.c (.int .i64 0)), none, [0], []⟩])
(.cond (.t 23)
  (.seq (.reg [⟨some 24, .mov (.t 10), none, [], []⟩,
    ⟨some 8, .mov (.c (.int .i64 0)), none, [], []⟩,
    ⟨some 9, .mov (.c (.int .i64 0)), none, [1, 1], []⟩,
    ⟨some 10, .mov (.t 24), none, [0, 2, 0, 1, 2], []⟩])
  (.ret))
  (.skip)))
(.seq (.reg [⟨some 25, .mov (.t 11), none, [], []⟩,
  ⟨some 26, .mkf 45 [] [(.t 12)], none, [], []⟩,
  ⟨some 27, .call 44 [(.t 25), (.t 26)], none, [0, 1], []⟩,
  ⟨some 8, .mov (.t 27), none, [2, 2, 0, 1, 2], []⟩])
(.seq (.reg [⟨some 28, .mov (.t 8), none, [], []⟩,
  ⟨some 29, .load 1 false (.t 12), none, [], []⟩,
  ⟨some 30, .mov (.t 8), none, [], []⟩,
  ⟨some 31, .callv (.t 29) [(.t 30)], none, [1, 2], []⟩,
  ⟨some 8, .mov (.t 28), none, [0, 3, 0, 2], []⟩,
  ⟨some 9, .mov (.t 31), none, [3, 4, 0, 1, 2, 3, 4], []⟩,
  ⟨some 10, .mov (.c (.int .i64 0)), none, [5, 0, 1, 2, 3, 4, 5], []⟩])
(.ret))))),
[.t 8, .t 9, .t 10], 32⟩
theorem v_cost_Cheapest_ok : compF Try.prog 24 = some v_cost_Cheapest := by kernel_rfl
def v_cost_Cost : VFn := ⟨.seq (.reg [⟨some 6, .mov (.c (.int .i64 0)), none, [], []⟩,
  ⟨some 7, .mov (.c (.int .i64 0)), none, [0], []⟩])
(.seq (.seq (.reg [⟨some 10, .mov (.t 0), none, [], []⟩,
  ⟨some 11, .call 46 [(.t 10)], none, [0], []⟩,
  ⟨some 12, .un .not (.t 11), none, [1], []⟩])
(.cond (.t 12)
  (.seq (.reg [⟨some 6, .mov (.c (.int .i64 0)), none, [], []⟩,
    ⟨some 7, .mov (.c (.int .i64 5)), none, [0, 0], []⟩])
  (.ret))
  (.skip)))
(.seq (.reg [⟨some 14, .mov (.t 2), none, [], []⟩,
  ⟨some 15, .call 47 [(.t 14)], none, [0], []⟩,
  ⟨some 13, .mov (.t 15), none, [1], []⟩,
  ⟨some 16, .ext (.t 13) 0, none, [2], []⟩,
  ⟨some 17, .ext (.t 13) 1, none, [2], []⟩,
  ⟨some 8, .mov (.t 16), none, [3, 1, 0, 1, 2, 3], []⟩,
  ⟨some 9, .mov (.t 17), none, [4, 5, 0, 1, 2, 3, 4, 5], []⟩])
(.seq (.block 0
  (.seq (.reg [⟨some 19, .mov (.t 9), none, [], []⟩,
    ⟨some 20, .bin .neq (.t 19) (.c (.int .i64 0)), none, [0], []⟩,
    ⟨some 18, .mov (.t 20), none, [1], []⟩])
  (.cond (.t 18)
    (.seq (.reg [⟨some 21, .mov (.t 9), none, [], []⟩,
      ⟨some 6, .mov (.c (.int .i64 0)), none, [], []⟩,
      ⟨some 7, .mov (.t 21), none, [0, 1, 0, 1], []⟩])
    (.ret))
    (.seq (.reg [⟨some 23, .mov (.t 1), none, [], []⟩,
      ⟨some 24, .call 48 [(.t 23)], none, [0], []⟩,
      ⟨some 25, .mov (.t 24), none, [1, 1], []⟩,
      ⟨some 26, .mov (.t 0), some (25, false), [2], []⟩,
      ⟨some 27, .call 49 [(.t 26)], some (25, false), [3, 2, 2], []⟩,
      ⟨some 28, .pick (.t 25) (.c (.bool true)) (.t 27), none, [2, 4], []⟩,
      ⟨some 22, .mov (.t 28), none, [5, 4], []⟩])
    (.cond (.t 22)
      (.seq (.reg [⟨some 6, .mov (.c (.int .i64 0)), none, [], []⟩,
        ⟨some 7, .mov (.c (.int .i64 10)), none, [0, 0], []⟩])
      (.ret))
      (.skip))))))
(.seq (.reg [⟨some 29, .mov (.t 0), none, [], []⟩,
  ⟨some 30, .mkm, none, [], []⟩,
  ⟨some 31, .build [(.sl [] .full), .nilm] [(0, 1, (.t 29)), (1, 1, (.t 30))], none, [0, 1], []⟩,
  ⟨some 32, .mov (.t 1), none, [], []⟩,
  ⟨some 33, .mov (.t 8), none, [], []⟩,
  ⟨some 34, .call 50 [(.t 31), (.t 32), (.t 33)], none, [2, 3, 4], []⟩,
  ⟨some 6, .mov (.t 34), none, [5, 5, 0, 1, 2, 3, 4, 5], []⟩,
  ⟨some 7, .mov (.c (.int .i64 0)), none, [6, 0, 1, 2, 3, 4, 5, 6], []⟩])
(.ret))))),
[.t 6, .t 7], 35⟩
theorem v_cost_Cost_ok : compF Try.prog 25 = some v_cost_Cost := by kernel_rfl
def v_cost_begins : VFn := ⟨.seq (.reg [⟨some 6, .box (.t 2), none, [], []⟩,
  ⟨some 8, .mov (.c (.sl [] .full)), none, [], []⟩,
  ⟨some 9, .mov (.c .nilf), none, [1], []⟩,
  ⟨some 10, .mov (.c (.int .i64 0)), none, [2], []⟩])
(.seq (.seq (.reg [⟨some 16, .mov (.t 0), none, [], []⟩,
  ⟨some 17, .call 46 [(.t 16)], none, [0], []⟩,
  ⟨some 18, .un .not (.t 17), none, [1], []⟩])
(.cond (.t 18)
  (.seq (.reg [⟨some 8, .mov (.c (.sl [] .full)), none, [], []⟩,
    ⟨some 9, .mov (.c .nilf), none, [0, 0], []⟩,
    ⟨some 10, .mov (.c (.int .i64 5)), none, [1, 0, 1], []⟩])
  (.ret))
  (.skip)))
(.seq (.reg [⟨some 20, .mov (.t 1), none, [], []⟩,
  ⟨some 21, .load 2 true (.t 6), none, [], []⟩,
  ⟨some 22, .mov (.t 3), none, [], []⟩,
  ⟨some 23, .call 23 [(.t 20), (.t 21), (.t 22)], none, [0, 1, 2], []⟩,
  ⟨some 19, .mov (.t 23), none, [3], []⟩,
  ⟨some 24, .ext (.t 19) 0, none, [4], []⟩,
  ⟨some 25, .ext (.t 19) 1, none, [4], []⟩,
  ⟨some 11, .mov (.t 24), none, [5, 3, 0, 1, 2, 3, 4, 5], []⟩,
  ⟨some 12, .mov (.t 25), none, [6, 7, 0, 1, 2, 3, 4, 5, 6, 7], []⟩])
(.seq (.block 0
  (.seq (.reg [⟨some 27, .mov (.t 12), none, [], []⟩,
    ⟨some 28, .bin .neq (.t 27) (.c (.int .i64 0)), none, [0], []⟩,
    ⟨some 26, .mov (.t 28), none, [1], []⟩])
  (.cond (.t 26)
    (.seq (.reg [⟨some 29, .mov (.t 12), none, [], []⟩,
      ⟨some 8, .mov (.c (.sl [] .full)), none, [], []⟩,
      ⟨some 9, .mov (.c .nilf), none, [1, 1], []⟩,
      ⟨some 10, .mov (.t 29), none, [0, 2, 0, 1, 2], []⟩])
    (.ret))
    (.seq (.reg [⟨some 31, .mov (.t 0), none, [], []⟩,
      ⟨some 32, .call 49 [(.t 31)], none, [0], []⟩,
      ⟨some 30, .mov (.t 32), none, [1, 1], []⟩])
    (.cond (.t 30)
      (.seq (.reg [⟨some 8, .mov (.c (.sl [] .full)), none, [], []⟩,
        ⟨some 9, .mov (.c .nilf), none, [0, 0], []⟩,
        ⟨some 10, .mov (.c (.int .i64 10)), none, [1, 0, 1], []⟩])
      (.ret))
      (.seq (.reg [⟨some 34, .mov (.t 11), none, [], []⟩,
        ⟨some 35, .len (.t 34), none, [0], []⟩,
        ⟨some 36, .bin .eql (.t 35) (.c (.int .i64 0)), none, [1], []⟩,
        ⟨some 33, .mov (.t 36), none, [2], []⟩])
      (.cond (.t 33)
        (.seq (.reg [⟨some 8, .mov (.c (.sl [] .full)), none, [], []⟩,
          ⟨some 9, .mov (.c .nilf), none, [0, 0], []⟩,
          ⟨some 10, .mov (.c (.int .i64 210)), none, [1, 0, 1], []⟩])
        (.ret))
        (.skip))))))))
(.seq (.reg [⟨some 38, .mov (.t 3), none, [], []⟩,
  ⟨some 39, .call 47 [(.t 38)], none, [0], []⟩,
  ⟨some 37, .mov (.t 39), none, [1], []⟩,
  ⟨some 40, .ext (.t 37) 0, none, [2], []⟩,
  ⟨some 41, .ext (.t 37) 1, none, [2], []⟩,
  ⟨some 13, .alloc [(.int .i64 0)], none, [], []⟩,
  ⟨none, .store 1 (.t 13) (.t 40), none, [5, 3, 1, 0, 1, 2, 3, 5], []⟩,
  ⟨some 14, .mov (.t 41), none, [4, 6, 0, 1, 2, 3, 4, 5, 6], []⟩])
(.seq (.reg [⟨some 42, .mov (.t 0), none, [], []⟩,
  ⟨some 43, .mkm, none, [], []⟩,
  ⟨some 44, .build [(.sl [] .full), .nilm] [(0, 1, (.t 42)), (1, 1, (.t 43))], none, [0, 1], []⟩,
  ⟨some 15, .alloc [(.sl [] .full), .nilm], none, [], []⟩,
  ⟨none, .store 2 (.t 15) (.t 44), none, [3, 2, 0, 1, 2, 3], []⟩])
(.seq (.reg [⟨some 45, .mov (.t 11), none, [], []⟩,
  ⟨some 46, .call 66 [(.t 45)], none, [0], []⟩,
  ⟨some 47, .call 65 [(.t 46)], none, [1, 1], []⟩,
  ⟨some 48, .mkf 67 [] [(.t 15), (.t 13)], none, [], []⟩,
  ⟨some 8, .mov (.t 47), none, [2, 2, 0, 1, 2], []⟩,
  ⟨some 9, .mov (.t 48), none, [3, 4, 0, 1, 2, 3, 4], []⟩,
  ⟨some 10, .mov (.c (.int .i64 0)), none, [5, 0, 1, 2, 3, 4, 5], []⟩])
(.ret))))))),
[.t 8, .t 9, .t 10], 49⟩
theorem v_cost_begins_ok : compF Try.prog 37 = some v_cost_begins := by kernel_rfl
def v_cost_Best_1 : VFn := ⟨.seq (.reg [⟨some 5, .mov (.c (.int .i64 0)), none, [], []⟩])
(.seq (.dreg [⟨some 6, .load 1 false (.t 2), none, [], []⟩,
  ⟨some 7, .mov (.t 0), none, [], []⟩,
  ⟨some 8, .callv (.t 6) [(.t 7)], none, [0, 1], []⟩,
  ⟨some 9, .load 1 false (.t 2), none, [], []⟩,
  ⟨some 10, .mov (.t 1), none, [], []⟩,
  ⟨some 11, .callv (.t 9) [(.t 10)], none, [3, 4, 2], [(0, 0)]⟩,
  ⟨some 12, .call 40 [(.t 8), (.t 11)], none, [2, 5, 5], [(0, 0)]⟩,
  ⟨some 5, .mov (.t 12), none, [6, 6, 0, 1, 2, 3, 4, 5, 6], []⟩])
(.ret)),
[.t 5], 13⟩
theorem v_cost_Best_1_ok : compF Try.prog 39 = some v_cost_Best_1 := by kernel_rfl
def v_cost_Cheapest_1 : VFn := ⟨.seq (.reg [⟨some 5, .mov (.c (.int .i64 0)), none, [], []⟩])
(.seq (.dreg [⟨some 6, .load 1 false (.t 2), none, [], []⟩,
  ⟨some 7, .mov (.t 0), none, [], []⟩,
  ⟨some 8, .callv (.t 6) [(.t 7)], none, [0, 1], []⟩,
  ⟨some 9, .load 1 false (.t 2), none, [], []⟩,
  ⟨some 10, .mov (.t 1), none, [], []⟩,
  ⟨some 11, .callv (.t 9) [(.t 10)], none, [3, 4, 2], [(0, 0)]⟩,
  ⟨some 12, .call 40 [(.t 8), (.t 11)], none, [2, 5, 5], [(0, 0)]⟩,
  ⟨some 5, .mov (.t 12), none, [6, 6, 0, 1, 2, 3, 4, 5, 6], []⟩])
(.ret)),
[.t 5], 13⟩
theorem v_cost_Cheapest_1_ok : compF Try.prog 45 = some v_cost_Cheapest_1 := by kernel_rfl
def v_cost_far : VFn := ⟨.seq (.reg [⟨some 2, .mov (.c (.bool false)), none, [], []⟩])
(.seq (.reg [⟨some 3, .mov (.t 0), none, [], []⟩,
  ⟨some 4, .bin .lss (.t 3) (.c (.int .i64 (-1099511627776))), none, [0], []⟩,
  ⟨some 5, .mov (.t 4), none, [1], []⟩,
  ⟨some 6, .mov (.t 0), some (5, false), [2], []⟩,
  ⟨some 7, .bin .gtr (.t 6) (.c (.int .i64 1099511627776)), some (5, false), [3, 2], []⟩,
  ⟨some 8, .pick (.t 5) (.c (.bool true)) (.t 7), none, [2, 4], []⟩,
  ⟨some 2, .mov (.t 8), none, [5, 2, 0, 1, 2, 3, 4, 5], []⟩])
(.ret)),
[.t 2], 9⟩
theorem v_cost_far_ok : compF Try.prog 48 = some v_cost_far := by kernel_rfl
def v_cost_much : VFn := ⟨.seq (.reg [⟨some 2, .mov (.c (.bool false)), none, [], []⟩])
(.seq (.reg [⟨some 3, .mov (.t 0), none, [], []⟩,
  ⟨some 4, .call 77 [(.t 3), (.c (.clo 80 [] []))], none, [0], []⟩,
  ⟨some 2, .mov (.t 4), none, [1, 1, 0, 1], []⟩])
(.ret)),
[.t 2], 5⟩
theorem v_cost_much_ok : compF Try.prog 49 = some v_cost_much := by kernel_rfl
def v_cost_price_at : VFn := ⟨.seq (.reg [⟨some 3, .box (.t 0), none, [], []⟩,
  ⟨some 6, .mov (.c (.int .i64 0)), none, [], []⟩])
(.seq (.seq (.reg [⟨some 15, .fad 1 (.t 3), none, [], []⟩,
  ⟨some 16, .load 1 false (.t 15), none, [0], []⟩,
  ⟨some 17, .mov (.t 1), none, [], []⟩,
  ⟨some 18, .mlk false (.int .i64 0) true (.t 16) (.t 17), none, [1, 2], []⟩,
  ⟨some 14, .mov (.t 18), none, [3], []⟩,
  ⟨some 19, .ext (.t 14) 0, none, [4], []⟩,
  ⟨some 20, .ext (.t 14) 1, none, [4], []⟩,
  ⟨some 7, .mov (.t 19), none, [5, 0, 1, 2, 3, 4, 5], []⟩,
  ⟨some 8, .mov (.t 20), none, [6, 7, 0, 1, 2, 3, 4, 5, 6, 7], []⟩])
(.seq (.reg [⟨some 21, .mov (.t 8), none, [], []⟩])
(.cond (.t 21)
  (.seq (.reg [⟨some 22, .mov (.t 7), none, [], []⟩,
    ⟨some 6, .mov (.t 22), none, [0, 0], []⟩])
  (.ret))
  (.skip))))
(.seq (.reg [⟨some 9, .mov (.c (.int .i64 0)), none, [], []⟩])
(.seq (.seq (.reg [⟨some 23, .mov (.t 1), none, [], []⟩,
  ⟨some 24, .mov (.t 1), none, [], []⟩,
  ⟨some 25, .mov (.t 2), none, [], []⟩,
  ⟨some 26, .bin .add (.t 24) (.t 25), none, [1, 2], []⟩,
  ⟨some 10, .mov (.t 23), none, [0, 0], []⟩,
  ⟨some 11, .mov (.t 26), none, [3, 4, 0, 1, 2, 3, 4], []⟩])
(.block 0
  (.loop
    (.seq (.seq (.reg [⟨some 27, .mov (.t 10), none, [], []⟩,
      ⟨some 28, .mov (.t 11), none, [], []⟩,
      ⟨some 29, .bin .lss (.t 27) (.t 28), none, [0, 1], []⟩])
    (.cond (.t 29)
      (.skip)
      (.exit 0)))
    (.seq (.block 1
      (.seq (.reg [⟨some 33, .fad 0 (.t 3), none, [], []⟩,
        ⟨some 34, .load 1 false (.t 33), none, [0], []⟩,
        ⟨some 35, .mov (.t 10), none, [], []⟩,
        ⟨some 36, .mov (.t 11), none, [], []⟩,
        ⟨some 37, .mov (.t 10), none, [], []⟩,
        ⟨some 38, .bin .add (.t 37) (.c (.int .i64 4096)), none, [4], []⟩,
        ⟨some 39, .mnx true (.t 36) [(.t 38)], none, [3, 5], []⟩,
        ⟨some 40, .call 81 [(.t 34), (.t 35), (.t 39)], none, [1, 2, 6], []⟩,
        ⟨some 32, .mov (.t 40), none, [7], []⟩,
        ⟨some 41, .ext (.t 32) 0, none, [8], []⟩,
        ⟨some 42, .ext (.t 32) 1, none, [8], []⟩,
        ⟨some 12, .alloc [(.int .i64 0), (.int .i64 0)], none, [], []⟩,
        ⟨none, .store 2 (.t 12) (.t 41), none, [11, 9, 7, 0, 1, 2, 3, 4, 5, 6, 7, 8, 9, 11], []⟩,
        ⟨some 13, .mov (.t 42), none, [10, 12, 0, 1, 2, 3, 4, 5, 6, 7, 8, 9, 10, 11, 12], []⟩])
      (.reg [⟨some 43, .mov (.t 9), none, [], []⟩,
        ⟨some 44, .fad 0 (.t 12), none, [], []⟩,
        ⟨some 45, .load 1 false (.t 44), none, [1], []⟩,
        ⟨some 46, .fad 1 (.t 12), none, [], []⟩,
        ⟨some 47, .load 1 false (.t 46), none, [3], []⟩,
        ⟨some 48, .bin .add (.t 45) (.t 47), none, [2, 4], []⟩,
        ⟨some 49, .bin .add (.t 43) (.t 48), none, [0, 5], []⟩,
        ⟨some 9, .mov (.t 49), none, [6, 0, 1, 2, 3, 4, 5, 6], []⟩])))
    (.reg [⟨some 30, .mov (.t 10), none, [], []⟩,
      ⟨some 31, .bin .add (.t 30) (.c (.int .i64 4096)), none, [0], []⟩,
      ⟨some 10, .mov (.t 31), none, [1, 0, 1], []⟩]))))))
(.seq (.reg [⟨some 50, .fad 1 (.t 3), none, [], []⟩,
  ⟨some 51, .load 1 false (.t 50), none, [0], []⟩,
  ⟨some 52, .mov (.t 1), none, [], []⟩,
  ⟨some 53, .mov (.t 9), none, [], []⟩,
  ⟨none, .mup false (.t 51) (.t 52) (.t 53), none, [1, 2, 3, 0, 1, 2, 3], []⟩])
(.seq (.reg [⟨some 54, .mov (.t 9), none, [], []⟩,
  ⟨some 6, .mov (.t 54), none, [0, 0], []⟩])
(.ret)))))),
[.t 6], 55⟩
theorem v_cost_price_at_ok : compF Try.prog 50 = some v_cost_price_at := by kernel_rfl
def v_cost_times : VFn := ⟨.seq (.reg [⟨some 1, .box (.t 0), none, [], []⟩,
  ⟨some 2, .mov (.c .nilf), none, [], []⟩])
(.seq (.reg [⟨some 3, .mkf 91 [] [(.t 1)], none, [], []⟩,
  ⟨some 2, .mov (.t 3), none, [0, 0], []⟩])
(.ret)),
[.t 2], 4⟩
theorem v_cost_times_ok : compF Try.prog 66 = some v_cost_times := by kernel_rfl
def v_cost_begins_1 : VFn := ⟨.seq (.reg [⟨some 4, .mov (.c (.int .i64 0)), none, [], []⟩])
(.seq (.reg [⟨some 5, .load 2 true (.t 1), none, [], []⟩,
  ⟨some 6, .mov (.t 0), none, [], []⟩,
  ⟨some 7, .load 1 false (.t 2), none, [], []⟩,
  ⟨some 8, .call 50 [(.t 5), (.t 6), (.t 7)], none, [0, 1, 2], []⟩,
  ⟨some 4, .mov (.t 8), none, [3, 3, 0, 1, 2, 3], []⟩])
(.ret)),
[.t 4], 9⟩
theorem v_cost_begins_1_ok : compF Try.prog 67 = some v_cost_begins_1 := by kernel_rfl
def v_cost_much_1 : VFn := ⟨.seq (.reg [⟨some 1, .box (.t 0), none, [], []⟩,
  ⟨some 2, .mov (.c (.bool false)), none, [], []⟩])
(.seq (.reg [⟨some 3, .fad 1 (.t 1), none, [], []⟩,
  ⟨some 4, .fad 0 (.t 3), none, [0], []⟩,
  ⟨some 5, .load 1 false (.t 4), none, [1], []⟩,
  ⟨some 6, .fad 1 (.t 1), none, [], []⟩,
  ⟨some 7, .fad 1 (.t 6), none, [3], []⟩,
  ⟨some 8, .load 1 false (.t 7), none, [4], []⟩,
  ⟨some 9, .mnx true (.t 5) [(.t 8)], none, [2, 5], []⟩,
  ⟨some 10, .bin .lss (.t 9) (.c (.int .i64 (-17592186044416))), none, [6], []⟩,
  ⟨some 11, .mov (.t 10), none, [7], []⟩,
  ⟨some 12, .fad 1 (.t 1), some (11, false), [8], []⟩,
  ⟨some 13, .fad 0 (.t 12), some (11, false), [9, 8], []⟩,
  ⟨some 14, .load 1 false (.t 13), some (11, false), [10, 8], []⟩,
  ⟨some 15, .fad 1 (.t 1), some (11, false), [8], []⟩,
  ⟨some 16, .fad 1 (.t 15), some (11, false), [12, 8], []⟩,
  ⟨some 17, .load 1 false (.t 16), some (11, false), [13, 8], []⟩,
  ⟨some 18, .mnx false (.t 14) [(.t 17)], some (11, false), [11, 14, 8], []⟩,
  ⟨some 19, .bin .gtr (.t 18) (.c (.int .i64 17592186044416)), some (11, false), [15, 8], []⟩,
  ⟨some 20, .pick (.t 11) (.c (.bool true)) (.t 19), none, [8, 16], []⟩,
  ⟨some 2, .mov (.t 20), none, [17, 8, 0, 1, 2, 3, 4, 5, 6, 7, 8, 9, 10, 11, 12, 13, 14, 15, 16, 17], []⟩])
(.ret)),
[.t 2], 21⟩
theorem v_cost_much_1_ok : compF Try.prog 80 = some v_cost_much_1 := by kernel_rfl
def v_cost_times_1 : VFn := ⟨.seq (.reg [⟨some 6, .load 1 false (.t 1), none, [], []⟩,
  ⟨some 7, .len (.t 6), none, [0], []⟩,
  ⟨some 8, .mov (.c (.int .i64 0)), none, [], []⟩])
(.block 0
  (.loop
    (.seq (.reg [⟨some 9, .bin .lss (.t 8) (.t 7), none, [], []⟩])
    (.seq (.cond (.t 9)
      (.skip)
      (.exit 0))
    (.seq (.block 1
      (.seq (.reg [⟨some 10, .iad 2 (.t 6) (.t 8), none, [], []⟩,
        ⟨some 11, .load 2 true (.t 10), none, [0], []⟩,
        ⟨some 4, .alloc [(.int .i64 0), (.int .i64 0)], none, [], []⟩,
        ⟨none, .store 2 (.t 4) (.t 11), none, [2, 1, 0, 1, 2], []⟩])
      (.seq (.reg [⟨some 12, .fad 0 (.t 4), none, [], []⟩,
        ⟨some 13, .load 1 false (.t 12), none, [0], []⟩,
        ⟨some 5, .mov (.t 13), none, [1, 0, 1], []⟩])
      (.block 2
        (.loop
          (.seq (.seq (.reg [⟨some 14, .mov (.t 5), none, [], []⟩,
            ⟨some 15, .fad 1 (.t 4), none, [], []⟩,
            ⟨some 16, .load 1 false (.t 15), none, [1], []⟩,
            ⟨some 17, .bin .lss (.t 14) (.t 16), none, [0, 2], []⟩])
          (.cond (.t 17)
            (.skip)
            (.exit 2)))
          (.seq (.block 3
            (.seq (.reg [⟨some 20, .mov (.t 0), none, [], []⟩,
              ⟨some 21, .mov (.t 5), none, [], []⟩,
              ⟨some 22, .callv (.t 20) [(.t 21)], none, [0, 1], []⟩,
              ⟨some 23, .un .not (.t 22), none, [2], []⟩])
            (.cond (.t 23)
              (.ret)
              (.skip))))
          (.reg [⟨some 18, .mov (.t 5), none, [], []⟩,
            ⟨some 19, .bin .add (.t 18) (.c (.int .i64 1)), none, [0], []⟩,
            ⟨some 5, .mov (.t 19), none, [1, 0, 1], []⟩]))))))))
    (.reg [⟨some 24, .bin .add (.t 8) (.c (.int .i64 1)), none, [], []⟩,
      ⟨some 8, .mov (.t 24), none, [0], []⟩])))))),
[], 25⟩
theorem v_cost_times_1_ok : compF Try.prog 91 = some v_cost_times_1 := by kernel_rfl
end Go.Proofs.Ytglekfgoadehbaa.V
end
section
set_option linter.unusedSimpArgs false
set_option linter.unusedVariables false
/- What the package cost's functions compute: far, much, at, Cost. -/
namespace Go.Proofs.Ytglekfgoadehbaa.V
open Go Go.Proofs
set_option maxRecDepth 100000
set_option maxHeartbeats 4000000
theorem farcost_v (n : Int) : VPure Try.prog 48 [.int .i64 n] (.bool (farF n)) := by
  refine VPure.of v_cost_far_ok (Nat.le_of_ble_eq_true rfl) (fun Z st => ?_)
  simp only [v_cost_far, ↓vD, vU, ↓vMd, vMu, VE.ev, VE.evs, retvs, tupOf, grab, vfill, vbsl, eqCells, eqCell, veqs, veqs1, vmnx, AV.isCell, AV.isUndef, Nat.reduceEqDiff, Nat.reduceAdd, Nat.reduceSub, Nat.reduceLeDiff, Nat.reduceLT, reduceIte, reduceCtorEq, Nat.reduceBEq, k_app, k_slc1]
  unfold farF
  (repeat' (first | (simp (config := { maxDischargeDepth := 16 }) only [*, vX, Int.reduceLE, Int.reduceLT, Int.reduceGE, Int.reduceGT, Int.reduceBEq, Int.reduceBNe, Int.reduceAdd, Int.reduceSub, Int.reduceMul, Int.reduceNeg, ↓vD, vU, ↓vMd, vMu, VE.ev, VE.evs, retvs, tupOf, grab, vfill, vbsl, eqCells, eqCell, veqs, veqs1, vmnx, AV.isCell, AV.isUndef, Nat.reduceEqDiff, Nat.reduceAdd, Nat.reduceSub, Nat.reduceLeDiff, Nat.reduceLT, reduceIte, reduceCtorEq, Nat.reduceBEq]) | (simp (disch := first | assumption | omega | exact Seg.len _ | exact Vec.len _ | exact Leg.len _ | exact num_len _ | exact rowA_len _ | exact rowA_len | exact rowT_len _ | exact rowT_len | exact Seg.len | exact Vec.len | exact Leg.len | exact num_len | exact AV.slen _ _ | rfl) only [vP]) | ((with_reducible first | refine gsnd ?_ ?_ | refine csnd ?_ ?_ | refine gsd ?_ ?_ | refine csd ?_ ?_ | refine gsn ?_ ?_ | refine csn ?_ ?_ | refine gs ?_ ?_ | refine cs_ ?_ ?_) <;> intro _) | (with_reducible refine objQ_i (fun _ _ => ?_); (repeat (with_reducible refine imp_i (fun _ => ?_))))))
  (all_goals (first | rfl | (simp_all; done) | (simp_all <;> omega)))
def muchS (x : Seg) : Bool := decide (min x.v.m x.v.c < -17592186044416) || decide (17592186044416 < max x.v.m x.v.c)
theorem much1_v (x : Seg) : VPure Try.prog 80 [x.a] (.bool (muchS x)) := by
  refine VPure.of v_cost_much_1_ok (Nat.le_of_ble_eq_true rfl) (fun Z st => ?_)
  simp only [v_cost_much_1, ↓vD, vU, ↓vMd, vMu, VE.ev, VE.evs, retvs, tupOf, grab, vfill, vbsl, eqCells, eqCell, veqs, veqs1, vmnx, AV.isCell, AV.isUndef, Nat.reduceEqDiff, Nat.reduceAdd, Nat.reduceSub, Nat.reduceLeDiff, Nat.reduceLT, reduceIte, reduceCtorEq, Nat.reduceBEq, k_app, k_slc1]
  unfold muchS
  (repeat' (first | (simp (config := { maxDischargeDepth := 16 }) only [*, Seg.a, vmin2, vmax2, vX, Int.reduceLE, Int.reduceLT, Int.reduceGE, Int.reduceGT, Int.reduceBEq, Int.reduceBNe, Int.reduceAdd, Int.reduceSub, Int.reduceMul, Int.reduceNeg, ↓vD, vU, ↓vMd, vMu, VE.ev, VE.evs, retvs, tupOf, grab, vfill, vbsl, eqCells, eqCell, veqs, veqs1, vmnx, AV.isCell, AV.isUndef, Nat.reduceEqDiff, Nat.reduceAdd, Nat.reduceSub, Nat.reduceLeDiff, Nat.reduceLT, reduceIte, reduceCtorEq, Nat.reduceBEq]) | (simp (disch := first | assumption | omega | exact Seg.len _ | exact Vec.len _ | exact Leg.len _ | exact num_len _ | exact rowA_len _ | exact rowA_len | exact rowT_len _ | exact rowT_len | exact Seg.len | exact Vec.len | exact Leg.len | exact num_len | exact AV.slen _ _ | rfl) only [Seg.a, vmin2, vmax2, vP]) | ((with_reducible first | refine gsnd ?_ ?_ | refine csnd ?_ ?_ | refine gsd ?_ ?_ | refine csd ?_ ?_ | refine gsn ?_ ?_ | refine csn ?_ ?_ | refine gs ?_ ?_ | refine cs_ ?_ ?_) <;> intro _) | (with_reducible refine objQ_i (fun _ _ => ?_); (repeat (with_reducible refine imp_i (fun _ => ?_))))))
  (all_goals (first | rfl | (simp_all; done) | (simp_all <;> omega)))
theorem much_v (f : List Seg) (hn : f.length ≤ 1000000000) (t : Tok) : VPure Try.prog 49 [.sl (f.map Seg.a) t] (.bool (f.any muchS)) := by
  have h := contains_pSeg (f := 80) (fs := []) (cs := []) f (by omega) t muchS (fun x => much1_v x)
  refine VPure.of v_cost_much_ok (Nat.le_of_ble_eq_true rfl) (fun Z st => ?_)
  simp only [v_cost_much, ↓vD, vU, ↓vMd, vMu, VE.ev, VE.evs, retvs, tupOf, grab, vfill, vbsl, eqCells, eqCell, veqs, veqs1, vmnx, AV.isCell, AV.isUndef, Nat.reduceEqDiff, Nat.reduceAdd, Nat.reduceSub, Nat.reduceLeDiff, Nat.reduceLT, reduceIte, reduceCtorEq, Nat.reduceBEq, k_app, k_slc1]
  (repeat' (first | (simp (config := { maxDischargeDepth := 16 }) only [*, vX, Int.reduceLE, Int.reduceLT, Int.reduceGE, Int.reduceGT, Int.reduceBEq, Int.reduceBNe, Int.reduceAdd, Int.reduceSub, Int.reduceMul, Int.reduceNeg, ↓vD, vU, ↓vMd, vMu, VE.ev, VE.evs, retvs, tupOf, grab, vfill, vbsl, eqCells, eqCell, veqs, veqs1, vmnx, AV.isCell, AV.isUndef, Nat.reduceEqDiff, Nat.reduceAdd, Nat.reduceSub, Nat.reduceLeDiff, Nat.reduceLT, reduceIte, reduceCtorEq, Nat.reduceBEq]) | (simp (disch := first | assumption | omega | exact Seg.len _ | exact Vec.len _ | exact Leg.len _ | exact num_len _ | exact rowA_len _ | exact rowA_len | exact rowT_len _ | exact rowT_len | exact Seg.len | exact Vec.len | exact Leg.len | exact num_len | exact AV.slen _ _ | rfl) only [vP]) | ((with_reducible first | refine gsnd ?_ ?_ | refine csnd ?_ ?_ | refine gsd ?_ ?_ | refine csd ?_ ?_ | refine gsn ?_ ?_ | refine csn ?_ ?_ | refine gs ?_ ?_ | refine cs_ ?_ ?_) <;> intro _) | (with_reducible refine objQ_i (fun _ _ => ?_); (repeat (with_reducible refine imp_i (fun _ => ?_)))) | (with_reducible first | refine callH_use (h) ?_ | refine pureQ_use (h) ?_)))
theorem much_small {f : List Seg} (h : f.any muchS = false) : ∀ x ∈ f, small 17592186044416 x.v := fun x hx => by
  have := List.any_eq_false.1 h x hx
  simp only [muchS, Bool.or_eq_true, decide_eq_true_eq, not_or] at this
  simp only [small]; omega
/-- What so many ticks cost, from a time on. -/
def costP (load : List Seg) (n t : Int) : Int := sumT (fun s => (atF load s).m + (atF load s).c) t n.toNat
theorem St.split {st : St} {b : Nat} {o : AObj} (h : st.objs b = some o) : ∃ S : St, st = S.ins b o ∧ S.objs b = none :=
  ⟨st.del b, by
    cases st
    simp only [St.ins, St.del, St.mk.injEq, and_true]
    funext i; split
    · rename_i e; subst e; exact h
    · rfl, by simp [St.del]⟩
theorem sum_next {load : List Seg} (hm : mayF load = true) (hs : ∀ x ∈ load, small 17592186044416 x.v) {t u z : Int} (h1 : t ≤ u) (h2 : u < z) (h3 : z - u ≤ 4096) (h4 : z - t ≤ 65536) :
    (-2305843009213693952 ≤ sumT (fun s => (atF load s).m + (atF load s).c) t (u - t).toNat ∧ sumT (fun s => (atF load s).m + (atF load s).c) t (u - t).toNat ≤ 2305843009213693952) ∧
    (-72057594037927936 ≤ (sumF_ load u z).m ∧ (sumF_ load u z).m ≤ 72057594037927936) ∧ (-72057594037927936 ≤ (sumF_ load u z).c ∧ (sumF_ load u z).c ≤ 72057594037927936) ∧
    sumT (fun s => (atF load s).m + (atF load s).c) t (u - t).toNat + ((sumF_ load u z).m + (sumF_ load u z).c) = sumT (fun s => (atF load s).m + (atF load s).c) t (z - t).toNat := by
  have hv : ∀ s, small 17592186044416 (atF load s) := fun s => atF_small (by omega) hs s
  have e := sumF_is hm (B := 17592186044416) (by omega) (by omega) hs h2 (by omega)
  have b1 := sumT_bd (fun s => (atF load s).m + (atF load s).c) 35184372088832 (u - t).toNat t (fun s _ _ => by have := hv s; simp only [small] at this; omega)
  have b2 := sumT_bd (fun s => (atF load s).m) 17592186044416 (z - u).toNat u (fun s _ _ => by have := hv s; simp only [small] at this; omega)
  have b3 := sumT_bd (fun s => (atF load s).c) 17592186044416 (z - u).toNat u (fun s _ _ => by have := hv s; simp only [small] at this; omega)
  rw [e]
  refine ⟨by omega, by simp only; omega, by simp only; omega, ?_⟩
  have hz : (z - t).toNat = (u - t).toNat + (z - u).toNat := by omega
  rw [hz, sumT_add, show t + ((u - t).toNat : Int) = u by omega, sumT_split (fun s => (atF load s).m) (fun s => (atF load s).c) (z - u).toNat u]
theorem price_at_c {Z : Im} {st : St} (load : List Seg) (hl : load.length ≤ 1000000) (hm : mayF load = true) (hs : ∀ x ∈ load, small 17592186044416 x.v) (n : Int) (hn : 0 ≤ n ∧ n ≤ 65536) (t : Int) (ht : -2199023255552 ≤ t ∧ t ≤ 2199023255552) (tk : Tok) {bm : Nat} (hb : st.objs bm = some (memo (Value.int .i64) .i64 (costP load n))) :
    VCalls Try.prog Z 50 [.agg [.sl (load.map Seg.a) tk, .mp bm], num t, num n] st (fun r s => r = num (costP load n t) ∧ s = st) := by
  obtain ⟨S, rfl, hS⟩ := St.split hb
  clear hb
  obtain ⟨hn1, hn2⟩ := hn
  obtain ⟨ht1, ht2⟩ := ht
  obtain ⟨h, hh⟩ : ∃ h : Int → Int, (fun s => (atF load s).m + (atF load s).c) = h := ⟨_, rfl⟩
  have HG : Hid (costP load n t = sumT h t n.toNat) := ⟨by unfold costP; rw [hh]⟩
  have HN : Hid (∀ u z, t ≤ u → u < z → z - u ≤ 4096 → z - t ≤ 65536 → (-2305843009213693952 ≤ sumT h t (u - t).toNat ∧ sumT h t (u - t).toNat ≤ 2305843009213693952) ∧
    (-72057594037927936 ≤ (sumF_ load u z).m ∧ (sumF_ load u z).m ≤ 72057594037927936) ∧ (-72057594037927936 ≤ (sumF_ load u z).c ∧ (sumF_ load u z).c ≤ 72057594037927936) ∧ sumT h t (u - t).toNat + ((sumF_ load u z).m + (sumF_ load u z).c) = sumT h t (z - t).toNat) := ⟨fun u z a b c d => by rw [← hh]; exact sum_next hm hs a b c d⟩
  have HM := Hid.mk hm
  obtain ⟨g, hg⟩ : ∃ g : Int → Int, costP load n = g := ⟨_, rfl⟩
  rw [hg] at HG ⊢
  clear hh hs hm hg
  refine VCalls.of v_cost_price_at_ok (Nat.le_of_ble_eq_true rfl) ?_
  simp only [v_cost_price_at, ↓vD, vU, ↓vMd, vMu, VE.ev, VE.evs, retvs, tupOf, grab, vfill, vbsl, eqCells, eqCell, veqs, veqs1, vmnx, AV.isCell, AV.isUndef, Nat.reduceEqDiff, Nat.reduceAdd, Nat.reduceSub, Nat.reduceLeDiff, Nat.reduceLT, reduceIte, reduceCtorEq, Nat.reduceBEq, k_app, k_slc1]
  (repeat' (first | (simp (config := { maxDischargeDepth := 16 }) only [*, num, vX, Int.reduceLE, Int.reduceLT, Int.reduceGE, Int.reduceGT, Int.reduceBEq, Int.reduceBNe, Int.reduceAdd, Int.reduceSub, Int.reduceMul, Int.reduceNeg, ↓vD, vU, ↓vMd, vMu, VE.ev, VE.evs, retvs, tupOf, grab, vfill, vbsl, eqCells, eqCell, veqs, veqs1, vmnx, AV.isCell, AV.isUndef, Nat.reduceEqDiff, Nat.reduceAdd, Nat.reduceSub, Nat.reduceLeDiff, Nat.reduceLT, reduceIte, reduceCtorEq, Nat.reduceBEq]) | (simp (disch := first | assumption | omega | exact Seg.len _ | exact Vec.len _ | exact Leg.len _ | exact num_len _ | exact rowA_len _ | exact rowA_len | exact rowT_len _ | exact rowT_len | exact Seg.len | exact Vec.len | exact Leg.len | exact num_len | exact AV.slen _ _ | rfl) only [num, vP]) | ((with_reducible first | refine gsnd ?_ ?_ | refine csnd ?_ ?_ | refine gsd ?_ ?_ | refine csd ?_ ?_ | refine gsn ?_ ?_ | refine csn ?_ ?_ | refine gs ?_ ?_ | refine cs_ ?_ ?_) <;> intro _) | (with_reducible refine objQ_i (fun _ _ => ?_); (repeat (with_reducible refine imp_i (fun _ => ?_))))))
  rename_i b3 h3 n1 n2
  have HO : Hid (∀ p z, t ≤ p → p < z → z - p ≤ 4096 → p ≤ t + 65536 → overE load p z = 0) := ⟨fun p z a b c d => by
    unfold overE; rw [HM.out, if_pos rfl, if_pos (by omega)]⟩
  refine loopq_of (by simp only [asgL, dsts, List.cons_append, List.nil_append, List.append_nil]; rfl) (by simp only [noR, Bool.and_true, Bool.and_false]; rfl) (fun r fr => ∃ (p q : Int), fr.t 10 = .int .i64 p ∧ fr.t 9 = .int .i64 (sumT h t (q - t).toNat) ∧ t ≤ q ∧ q ≤ p ∧ q ≤ t + n ∧ (p < t + n → q = p) ∧ (t + n ≤ p → q = t + n) ∧ p ≤ t + 70000 ∧ r = (t + n - p).toNat) ?_ ?_
  · exact ⟨_, t, t, by simp [↓vD, vU, ↓vMd, vMu, VE.ev, VE.evs, retvs, tupOf, grab, vfill, vbsl, eqCells, eqCell, veqs, veqs1, vmnx, AV.isCell, AV.isUndef, Nat.reduceEqDiff, Nat.reduceAdd, Nat.reduceSub, Nat.reduceLeDiff, Nat.reduceLT, reduceIte, reduceCtorEq, Nat.reduceBEq, k_app, k_slc1], by simp [↓vD, vU, ↓vMd, vMu, VE.ev, VE.evs, retvs, tupOf, grab, vfill, vbsl, eqCells, eqCell, veqs, veqs1, vmnx, AV.isCell, AV.isUndef, Nat.reduceEqDiff, Nat.reduceAdd, Nat.reduceSub, Nat.reduceLeDiff, Nat.reduceLT, reduceIte, reduceCtorEq, Nat.reduceBEq, k_app, k_slc1, sumT], by omega, by omega, by omega, by omega, by omega, by omega, rfl⟩
  · rintro r fr hfr hd ⟨p, q, h10, h9, q1, q2, q3, q4, q5, q6, hr⟩
    have HR := Hid.mk hr
    clear hr
    by_cases hp : p < t + n
    · obtain rfl := q4 hp
      obtain ⟨z, hz⟩ : ∃ z, min (t + n) (q + 4096) = z := ⟨_, rfl⟩
      have z1 : q < z := by omega
      have z2 : z - q ≤ 4096 := by omega
      have z3 : z ≤ t + n := by omega
      have z4 : q + 4096 < t + n → z = q + 4096 := by omega
      have z5 : t + n ≤ q + 4096 → z = t + n := by omega
      have hc := Sum_c load hl q z tk
      rw [HO.out q z q1 z1 z2 (by omega), if_pos rfl] at hc
      obtain ⟨⟨w1, w2⟩, ⟨w3, w4⟩, ⟨w5, w6⟩, w7⟩ := HN.out q z q1 z1 z2 (by omega)
      obtain ⟨v, hv⟩ : ∃ v, sumF_ load q z = v := ⟨_, rfl⟩
      obtain ⟨s1, hs1⟩ : ∃ s, sumT h t (q - t).toNat = s := ⟨_, rfl⟩
      rw [hv] at hc w3 w4 w5 w6 w7
      rw [hs1] at w1 w2 w7 h9
      have HW := Hid.mk w7
      clear w7 hv hs1 HN HO q4 q5
      simp only [num, Vec.a] at hc
      (repeat' (first | (simp (config := { maxDischargeDepth := 16 }) only [*, vX, Int.reduceLE, Int.reduceLT, Int.reduceGE, Int.reduceGT, Int.reduceBEq, Int.reduceBNe, Int.reduceAdd, Int.reduceSub, Int.reduceMul, Int.reduceNeg, ↓vD, vU, ↓vMd, vMu, VE.ev, VE.evs, retvs, tupOf, grab, vfill, vbsl, eqCells, eqCell, veqs, veqs1, vmnx, AV.isCell, AV.isUndef, Nat.reduceEqDiff, Nat.reduceAdd, Nat.reduceSub, Nat.reduceLeDiff, Nat.reduceLT, reduceIte, reduceCtorEq, Nat.reduceBEq]) | (simp (disch := first | assumption | omega | exact Seg.len _ | exact Vec.len _ | exact Leg.len _ | exact num_len _ | exact rowA_len _ | exact rowA_len | exact rowT_len _ | exact rowT_len | exact Seg.len | exact Vec.len | exact Leg.len | exact num_len | exact AV.slen _ _ | rfl) only [vP]) | ((with_reducible first | refine gsnd ?_ ?_ | refine csnd ?_ ?_ | refine gsd ?_ ?_ | refine csd ?_ ?_ | refine gsn ?_ ?_ | refine csn ?_ ?_ | refine gs ?_ ?_ | refine cs_ ?_ ?_) <;> intro _) | (with_reducible refine objQ_i (fun _ _ => ?_); (repeat (with_reducible refine imp_i (fun _ => ?_)))) | (with_reducible first | refine callH_use (hc) ?_ | refine pureQ_use (hc) ?_)))
      refine ⟨(t + n - (q + 4096)).toNat, by have := HR.out; omega, q + 4096, z, rfl, HW.out, by omega, by omega, by omega, by omega, by omega, by omega, rfl⟩
    · have hq := q5 (by omega)
      subst hq
      have HG2 : Hid (sumT h t (t + n - t).toNat = g t) := ⟨by rw [HG.out, show (t + n - t) = n by omega]⟩
      rw [HG2.out] at h9
      clear HG HG2 HN HO q4 q5 q3 q1 q2
      (repeat' (first | (simp (config := { maxDischargeDepth := 16 }) only [*, vX, Int.reduceLE, Int.reduceLT, Int.reduceGE, Int.reduceGT, Int.reduceBEq, Int.reduceBNe, Int.reduceAdd, Int.reduceSub, Int.reduceMul, Int.reduceNeg, ↓vD, vU, ↓vMd, vMu, VE.ev, VE.evs, retvs, tupOf, grab, vfill, vbsl, eqCells, eqCell, veqs, veqs1, vmnx, AV.isCell, AV.isUndef, Nat.reduceEqDiff, Nat.reduceAdd, Nat.reduceSub, Nat.reduceLeDiff, Nat.reduceLT, reduceIte, reduceCtorEq, Nat.reduceBEq]) | (simp (disch := first | assumption | omega | exact Seg.len _ | exact Vec.len _ | exact Leg.len _ | exact num_len _ | exact rowA_len _ | exact rowA_len | exact rowT_len _ | exact rowT_len | exact Seg.len | exact Vec.len | exact Leg.len | exact num_len | exact AV.slen _ _ | rfl) only [vP]) | ((with_reducible first | refine gsnd ?_ ?_ | refine csnd ?_ ?_ | refine gsd ?_ ?_ | refine csd ?_ ?_ | refine gsn ?_ ?_ | refine csn ?_ ?_ | refine gs ?_ ?_ | refine cs_ ?_ ?_) <;> intro _) | (with_reducible refine objQ_i (fun _ _ => ?_); (repeat (with_reducible refine imp_i (fun _ => ?_))))))
def costE (load : List Seg) (t : Int) (l : List Leg) : Int × Int :=
  if mayF load then (if (lengthF l).2 ≠ 0 then (0, (lengthF l).2) else if farF t || load.any muchS then (0, 10) else (costP load (lengthF l).1 t, 0)) else (0, 5)
theorem length_bd {l : List Leg} (h : (lengthF l).2 = 0) : 0 ≤ (lengthF l).1 ∧ (lengthF l).1 ≤ 65536 := by
  unfold lengthF at h ⊢
  split at h
  · simp at h
  · rename_i hc
    rw [if_neg hc]
    simp only [Bool.or_eq_true, decide_eq_true_eq, not_or, Bool.not_eq_true] at hc
    obtain ⟨⟨h1, h2⟩, h3⟩ := hc
    have hb : ∀ x ∈ l, 0 ≤ x.d ∧ x.d ≤ 4096 := fun x hx => by
      have := List.any_eq_false.1 h1 x hx
      simp only [badD, Bool.or_eq_true, decide_eq_true_eq, not_or] at this
      omega
    have : ∀ m : List Leg, (∀ x ∈ m, 0 ≤ x.d ∧ x.d ≤ 4096) → 0 ≤ sumD m ∧ sumD m ≤ 4096 * m.length := by
      intro m
      induction m with
      | nil => intro _; simp [sumD]
      | cons y r ih =>
        intro h
        have h4 := ih fun x hx => h x (by simp [hx])
        have h5 := h y (by simp)
        simp only [sumD, List.length_cons]; omega
    have := this l hb
    simp only; omega
theorem Cost_c {Z : Im} {st : St} (load : List Seg) (hl : load.length ≤ 1000000) (t : Int) (l : List Leg) (hn : l.length ≤ 1000000000) (tk tk' : Tok) :
    VCalls Try.prog Z 25 [.sl (load.map Seg.a) tk, num t, .sl (l.map Leg.a) tk'] st (fun r s => r = .tup [num (costE load t l).1, num (costE load t l).2] ∧ s = st) := by
  have hm := May_F load (by omega) tk
  have hL := Length_v l hn tk'
  have hf := farcost_v t
  have hu := much_v load (by omega) tk
  have hbd := Hid.mk (@length_bd l)
  unfold costE
  obtain ⟨n, e'⟩ : ∃ n, (lengthF l).1 = n := ⟨_, rfl⟩
  obtain ⟨e, e''⟩ : ∃ e, (lengthF l).2 = e := ⟨_, rfl⟩
  rw [e', e''] at hbd hL ⊢
  clear e' e''
  have HP : Hid (mayF load = true → farF t = false → load.any muchS = false → e = 0 → ∀ b, (st.ins b (mo (Value.int .i64) .i64 [])).objs b = some (mo (Value.int .i64) .i64 ([] : List (Int × Int))) →
    VCalls Try.prog Z 50 [.agg [.sl (load.map Seg.a) tk, .mp b], num t, num n] (st.ins b (mo (Value.int .i64) .i64 [])) (fun r s => r = num (costP load n t) ∧ s = (st.ins b (mo (Value.int .i64) .i64 [])).ins b (memo (Value.int .i64) .i64 (costP load n)))) := ⟨fun a1 a2 a3 a4 b hb => by
      have hfar : -1099511627776 ≤ t ∧ t ≤ 1099511627776 := by
        simp only [farF, Bool.or_eq_false_iff, decide_eq_false_iff_not] at a2; omega
      have hb2 := hbd.out a4
      exact VCalls.pre (Wk.toMemo (Value.int .i64) .i64 (costP load n) _ hb _) (price_at_c load hl a1 (much_small a3) n hb2 t (by omega) tk (by simp [St.ins]))⟩
  obtain ⟨m, hm'⟩ : ∃ m, mayF load = m := ⟨_, rfl⟩
  obtain ⟨f, hf'⟩ : ∃ f, farF t = f := ⟨_, rfl⟩
  obtain ⟨u, hu'⟩ : ∃ u, load.any muchS = u := ⟨_, rfl⟩
  obtain ⟨c, hc'⟩ : ∃ c, costP load n t = c := ⟨_, rfl⟩
  rw [hm', hf', hu', hc'] at HP
  rw [hm'] at hm ⊢
  rw [hf'] at hf ⊢
  rw [hu'] at hu ⊢
  rw [hc']
  clear hm' hf' hu' hc' hbd
  simp only [num] at hL
  refine VCalls.of v_cost_Cost_ok (Nat.le_of_ble_eq_true rfl) ?_
  simp only [v_cost_Cost, ↓vD, vU, ↓vMd, vMu, VE.ev, VE.evs, retvs, tupOf, grab, vfill, vbsl, eqCells, eqCell, veqs, veqs1, vmnx, AV.isCell, AV.isUndef, Nat.reduceEqDiff, Nat.reduceAdd, Nat.reduceSub, Nat.reduceLeDiff, Nat.reduceLT, reduceIte, reduceCtorEq, Nat.reduceBEq, k_app, k_slc1]
  by_cases h0 : e = 0
  · subst h0
    cases m
    · (repeat' (first | (simp (config := { maxDischargeDepth := 16 }) only [*, num, vX, Int.reduceLE, Int.reduceLT, Int.reduceGE, Int.reduceGT, Int.reduceBEq, Int.reduceBNe, Int.reduceAdd, Int.reduceSub, Int.reduceMul, Int.reduceNeg, ↓vD, vU, ↓vMd, vMu, VE.ev, VE.evs, retvs, tupOf, grab, vfill, vbsl, eqCells, eqCell, veqs, veqs1, vmnx, AV.isCell, AV.isUndef, Nat.reduceEqDiff, Nat.reduceAdd, Nat.reduceSub, Nat.reduceLeDiff, Nat.reduceLT, reduceIte, reduceCtorEq, Nat.reduceBEq]) | (simp (disch := first | assumption | omega | exact Seg.len _ | exact Vec.len _ | exact Leg.len _ | exact num_len _ | exact rowA_len _ | exact rowA_len | exact rowT_len _ | exact rowT_len | exact Seg.len | exact Vec.len | exact Leg.len | exact num_len | exact AV.slen _ _ | rfl) only [num, vP]) | ((with_reducible first | refine gsnd ?_ ?_ | refine csnd ?_ ?_ | refine gsd ?_ ?_ | refine csd ?_ ?_ | refine gsn ?_ ?_ | refine csn ?_ ?_ | refine gs ?_ ?_ | refine cs_ ?_ ?_) <;> intro _) | (with_reducible refine objQ_i (fun _ _ => ?_); (repeat (with_reducible refine imp_i (fun _ => ?_)))) | (with_reducible first | refine callH_use (hm) ?_ | refine pureQ_use (hm) ?_)))
    cases f
    · cases u
      · (repeat' (first | (simp (config := { maxDischargeDepth := 16 }) only [*, num, vX, Int.reduceLE, Int.reduceLT, Int.reduceGE, Int.reduceGT, Int.reduceBEq, Int.reduceBNe, Int.reduceAdd, Int.reduceSub, Int.reduceMul, Int.reduceNeg, ↓vD, vU, ↓vMd, vMu, VE.ev, VE.evs, retvs, tupOf, grab, vfill, vbsl, eqCells, eqCell, veqs, veqs1, vmnx, AV.isCell, AV.isUndef, Nat.reduceEqDiff, Nat.reduceAdd, Nat.reduceSub, Nat.reduceLeDiff, Nat.reduceLT, reduceIte, reduceCtorEq, Nat.reduceBEq]) | (simp (disch := first | assumption | omega | exact Seg.len _ | exact Vec.len _ | exact Leg.len _ | exact num_len _ | exact rowA_len _ | exact rowA_len | exact rowT_len _ | exact rowT_len | exact Seg.len | exact Vec.len | exact Leg.len | exact num_len | exact AV.slen _ _ | rfl) only [num, vP]) | ((with_reducible first | refine gsnd ?_ ?_ | refine csnd ?_ ?_ | refine gsd ?_ ?_ | refine csd ?_ ?_ | refine gsn ?_ ?_ | refine csn ?_ ?_ | refine gs ?_ ?_ | refine cs_ ?_ ?_) <;> intro _) | (with_reducible refine objQ_i (fun _ _ => ?_); (repeat (with_reducible refine imp_i (fun _ => ?_)))) | (with_reducible first | refine callH_use (hm) ?_ | refine pureQ_use (hm) ?_) | (with_reducible first | refine callH_use (hL) ?_ | refine pureQ_use (hL) ?_) | (with_reducible first | refine callH_use (hf) ?_ | refine pureQ_use (hf) ?_) | (with_reducible first | refine callH_use (hu) ?_ | refine pureQ_use (hu) ?_)))
        rename_i b h1
        have hp := HP.out rfl rfl rfl rfl b (by simp [St.ins])
        unfold num at hp
        refine callH_then hp ?_
        rintro _ _ ⟨rfl, rfl⟩
        clear hp HP
        (repeat' (first | (simp (config := { maxDischargeDepth := 16 }) only [*, num, vX, Int.reduceLE, Int.reduceLT, Int.reduceGE, Int.reduceGT, Int.reduceBEq, Int.reduceBNe, Int.reduceAdd, Int.reduceSub, Int.reduceMul, Int.reduceNeg, ↓vD, vU, ↓vMd, vMu, VE.ev, VE.evs, retvs, tupOf, grab, vfill, vbsl, eqCells, eqCell, veqs, veqs1, vmnx, AV.isCell, AV.isUndef, Nat.reduceEqDiff, Nat.reduceAdd, Nat.reduceSub, Nat.reduceLeDiff, Nat.reduceLT, reduceIte, reduceCtorEq, Nat.reduceBEq]) | (simp (disch := first | assumption | omega | exact Seg.len _ | exact Vec.len _ | exact Leg.len _ | exact num_len _ | exact rowA_len _ | exact rowA_len | exact rowT_len _ | exact rowT_len | exact Seg.len | exact Vec.len | exact Leg.len | exact num_len | exact AV.slen _ _ | rfl) only [num, vP]) | ((with_reducible first | refine gsnd ?_ ?_ | refine csnd ?_ ?_ | refine gsd ?_ ?_ | refine csd ?_ ?_ | refine gsn ?_ ?_ | refine csn ?_ ?_ | refine gs ?_ ?_ | refine cs_ ?_ ?_) <;> intro _) | (with_reducible refine objQ_i (fun _ _ => ?_); (repeat (with_reducible refine imp_i (fun _ => ?_))))))
      · (repeat' (first | (simp (config := { maxDischargeDepth := 16 }) only [*, num, vX, Int.reduceLE, Int.reduceLT, Int.reduceGE, Int.reduceGT, Int.reduceBEq, Int.reduceBNe, Int.reduceAdd, Int.reduceSub, Int.reduceMul, Int.reduceNeg, ↓vD, vU, ↓vMd, vMu, VE.ev, VE.evs, retvs, tupOf, grab, vfill, vbsl, eqCells, eqCell, veqs, veqs1, vmnx, AV.isCell, AV.isUndef, Nat.reduceEqDiff, Nat.reduceAdd, Nat.reduceSub, Nat.reduceLeDiff, Nat.reduceLT, reduceIte, reduceCtorEq, Nat.reduceBEq]) | (simp (disch := first | assumption | omega | exact Seg.len _ | exact Vec.len _ | exact Leg.len _ | exact num_len _ | exact rowA_len _ | exact rowA_len | exact rowT_len _ | exact rowT_len | exact Seg.len | exact Vec.len | exact Leg.len | exact num_len | exact AV.slen _ _ | rfl) only [num, vP]) | ((with_reducible first | refine gsnd ?_ ?_ | refine csnd ?_ ?_ | refine gsd ?_ ?_ | refine csd ?_ ?_ | refine gsn ?_ ?_ | refine csn ?_ ?_ | refine gs ?_ ?_ | refine cs_ ?_ ?_) <;> intro _) | (with_reducible refine objQ_i (fun _ _ => ?_); (repeat (with_reducible refine imp_i (fun _ => ?_)))) | (with_reducible first | refine callH_use (hm) ?_ | refine pureQ_use (hm) ?_) | (with_reducible first | refine callH_use (hL) ?_ | refine pureQ_use (hL) ?_) | (with_reducible first | refine callH_use (hf) ?_ | refine pureQ_use (hf) ?_) | (with_reducible first | refine callH_use (hu) ?_ | refine pureQ_use (hu) ?_)))
    · (repeat' (first | (simp (config := { maxDischargeDepth := 16 }) only [*, num, vX, Int.reduceLE, Int.reduceLT, Int.reduceGE, Int.reduceGT, Int.reduceBEq, Int.reduceBNe, Int.reduceAdd, Int.reduceSub, Int.reduceMul, Int.reduceNeg, ↓vD, vU, ↓vMd, vMu, VE.ev, VE.evs, retvs, tupOf, grab, vfill, vbsl, eqCells, eqCell, veqs, veqs1, vmnx, AV.isCell, AV.isUndef, Nat.reduceEqDiff, Nat.reduceAdd, Nat.reduceSub, Nat.reduceLeDiff, Nat.reduceLT, reduceIte, reduceCtorEq, Nat.reduceBEq]) | (simp (disch := first | assumption | omega | exact Seg.len _ | exact Vec.len _ | exact Leg.len _ | exact num_len _ | exact rowA_len _ | exact rowA_len | exact rowT_len _ | exact rowT_len | exact Seg.len | exact Vec.len | exact Leg.len | exact num_len | exact AV.slen _ _ | rfl) only [num, vP]) | ((with_reducible first | refine gsnd ?_ ?_ | refine csnd ?_ ?_ | refine gsd ?_ ?_ | refine csd ?_ ?_ | refine gsn ?_ ?_ | refine csn ?_ ?_ | refine gs ?_ ?_ | refine cs_ ?_ ?_) <;> intro _) | (with_reducible refine objQ_i (fun _ _ => ?_); (repeat (with_reducible refine imp_i (fun _ => ?_)))) | (with_reducible first | refine callH_use (hm) ?_ | refine pureQ_use (hm) ?_) | (with_reducible first | refine callH_use (hL) ?_ | refine pureQ_use (hL) ?_) | (with_reducible first | refine callH_use (hf) ?_ | refine pureQ_use (hf) ?_)))
  · cases m
    · (repeat' (first | (simp (config := { maxDischargeDepth := 16 }) only [*, num, vX, Int.reduceLE, Int.reduceLT, Int.reduceGE, Int.reduceGT, Int.reduceBEq, Int.reduceBNe, Int.reduceAdd, Int.reduceSub, Int.reduceMul, Int.reduceNeg, ↓vD, vU, ↓vMd, vMu, VE.ev, VE.evs, retvs, tupOf, grab, vfill, vbsl, eqCells, eqCell, veqs, veqs1, vmnx, AV.isCell, AV.isUndef, Nat.reduceEqDiff, Nat.reduceAdd, Nat.reduceSub, Nat.reduceLeDiff, Nat.reduceLT, reduceIte, reduceCtorEq, Nat.reduceBEq]) | (simp (disch := first | assumption | omega | exact Seg.len _ | exact Vec.len _ | exact Leg.len _ | exact num_len _ | exact rowA_len _ | exact rowA_len | exact rowT_len _ | exact rowT_len | exact Seg.len | exact Vec.len | exact Leg.len | exact num_len | exact AV.slen _ _ | rfl) only [num, vP]) | ((with_reducible first | refine gsnd ?_ ?_ | refine csnd ?_ ?_ | refine gsd ?_ ?_ | refine csd ?_ ?_ | refine gsn ?_ ?_ | refine csn ?_ ?_ | refine gs ?_ ?_ | refine cs_ ?_ ?_) <;> intro _) | (with_reducible refine objQ_i (fun _ _ => ?_); (repeat (with_reducible refine imp_i (fun _ => ?_)))) | (with_reducible first | refine callH_use (hm) ?_ | refine pureQ_use (hm) ?_)))
    · (repeat' (first | (simp (config := { maxDischargeDepth := 16 }) only [*, num, vX, Int.reduceLE, Int.reduceLT, Int.reduceGE, Int.reduceGT, Int.reduceBEq, Int.reduceBNe, Int.reduceAdd, Int.reduceSub, Int.reduceMul, Int.reduceNeg, ↓vD, vU, ↓vMd, vMu, VE.ev, VE.evs, retvs, tupOf, grab, vfill, vbsl, eqCells, eqCell, veqs, veqs1, vmnx, AV.isCell, AV.isUndef, Nat.reduceEqDiff, Nat.reduceAdd, Nat.reduceSub, Nat.reduceLeDiff, Nat.reduceLT, reduceIte, reduceCtorEq, Nat.reduceBEq]) | (simp (disch := first | assumption | omega | exact Seg.len _ | exact Vec.len _ | exact Leg.len _ | exact num_len _ | exact rowA_len _ | exact rowA_len | exact rowT_len _ | exact rowT_len | exact Seg.len | exact Vec.len | exact Leg.len | exact num_len | exact AV.slen _ _ | rfl) only [num, vP]) | ((with_reducible first | refine gsnd ?_ ?_ | refine csnd ?_ ?_ | refine gsd ?_ ?_ | refine csd ?_ ?_ | refine gsn ?_ ?_ | refine csn ?_ ?_ | refine gs ?_ ?_ | refine cs_ ?_ ?_) <;> intro _) | (with_reducible refine objQ_i (fun _ _ => ?_); (repeat (with_reducible refine imp_i (fun _ => ?_)))) | (with_reducible first | refine callH_use (hm) ?_ | refine pureQ_use (hm) ?_) | (with_reducible first | refine callH_use (hL) ?_ | refine pureQ_use (hL) ?_)))
end Go.Proofs.Ytglekfgoadehbaa.V
end
section
set_option linter.unusedSimpArgs false
set_option linter.unusedVariables false
/- Rows of times, time by time, in plain Lean. -/
namespace Go.Proofs.Ytglekfgoadehbaa.V
open Go Go.Proofs
def ticks (m c : Int) : List Int := (List.range (c - m).toNat).map fun (i : Nat) => m + (i : Int)
def allT (l : List Vec) : List Int := l.flatMap fun w => ticks w.m w.c
theorem ticks_nil {m c : Int} (h : c ≤ m) : ticks m c = [] := by
  unfold ticks
  rw [show (c - m).toNat = 0 by omega]; rfl
theorem ticks_cons {m c : Int} (h : m < c) : ticks m c = m :: ticks (m + 1) c := by
  unfold ticks
  rw [show (c - m).toNat = (c - (m + 1)).toNat + 1 by omega, List.range_succ_eq_map, List.map_cons, List.map_map]
  congr 1
  · simp
  · refine List.map_congr_left fun i _ => ?_
    simp only [Function.comp_apply]; omega
theorem mem_ticks {m c t : Int} : t ∈ ticks m c ↔ m ≤ t ∧ t < c := by
  unfold ticks
  simp only [List.mem_map, List.mem_range]
  constructor
  · rintro ⟨i, hi, rfl⟩; omega
  · intro h; exact ⟨(t - m).toNat, by omega, by omega⟩
theorem ticks_len (m c : Int) : (ticks m c).length = (c - m).toNat := by unfold ticks; simp
theorem ticks_up (m c : Int) : (ticks m c).Pairwise (· < ·) := by
  unfold ticks
  rw [List.pairwise_map]
  exact List.pairwise_lt_range.imp (fun h => by omega)
theorem mem_allT {l : List Vec} {t : Int} : t ∈ allT l ↔ memW l t := by
  unfold allT memW
  simp only [List.mem_flatMap, mem_ticks, inW]
theorem allT_cons (w : Vec) (l : List Vec) : allT (w :: l) = ticks w.m w.c ++ allT l := rfl
theorem allT_up : ∀ {l : List Vec} {lo hi : Int}, RowsG lo hi l → (allT l).Pairwise (· < ·)
  | [], _, _, _ => List.Pairwise.nil
  | w :: r, lo, hi, ⟨a, b, c, d⟩ => by
    rw [allT_cons, List.pairwise_append]
    refine ⟨ticks_up _ _, allT_up d, fun x hx y hy => ?_⟩
    have := (mem_ticks.1 hx).2
    have := d.low (mem_allT.1 hy)
    omega
theorem allT_len : ∀ {l : List Vec} {lo hi : Int}, RowsG lo hi l → lo ≤ hi + 1 → ((allT l).length : Int) ≤ hi + 1 - lo
  | [], _, _, _, h => by simp [allT]; omega
  | w :: r, lo, hi, ⟨a, b, c, d⟩, _ => by
    rw [allT_cons, List.length_append, ticks_len]
    have := allT_len d (by omega)
    omega
end Go.Proofs.Ytglekfgoadehbaa.V
end
section
set_option linter.unusedSimpArgs false
set_option linter.unusedVariables false
/- cost.times; slices.Collect at int64, as a row of its own. -/
namespace Go.Proofs.Ytglekfgoadehbaa.V
open Go Go.Proofs
set_option maxRecDepth 100000
set_option maxHeartbeats 4000000
theorem times_c (l : List Vec) (t : Tok) : VPure Try.prog 66 [.sl (l.map Vec.a) t] (.clo 91 [] [.iptr (.sl (l.map Vec.a) t) 0]) := fun Z st => by
  have h : VCalls Try.prog Z 66 [.sl (l.map Vec.a) t] st (fun r s => ∃ bf, st.objs bf = none ∧ r = .clo 91 [] [.ptr bf 0] ∧ s = st.ins bf (.cells [.sl (l.map Vec.a) t])) := by
    refine VCalls.of v_cost_times_ok (Nat.le_of_ble_eq_true rfl) ?_
    simp only [v_cost_times, ↓vD, vU, ↓vMd, vMu, VE.ev, VE.evs, retvs, tupOf, grab, vfill, vbsl, eqCells, eqCell, veqs, veqs1, vmnx, AV.isCell, AV.isUndef, Nat.reduceEqDiff, Nat.reduceAdd, Nat.reduceSub, Nat.reduceLeDiff, Nat.reduceLT, reduceIte, reduceCtorEq, Nat.reduceBEq, k_app, k_slc1]
    (repeat' (first | (simp (config := { maxDischargeDepth := 16 }) only [*, vX, Int.reduceLE, Int.reduceLT, Int.reduceGE, Int.reduceGT, Int.reduceBEq, Int.reduceBNe, Int.reduceAdd, Int.reduceSub, Int.reduceMul, Int.reduceNeg, ↓vD, vU, ↓vMd, vMu, VE.ev, VE.evs, retvs, tupOf, grab, vfill, vbsl, eqCells, eqCell, veqs, veqs1, vmnx, AV.isCell, AV.isUndef, Nat.reduceEqDiff, Nat.reduceAdd, Nat.reduceSub, Nat.reduceLeDiff, Nat.reduceLT, reduceIte, reduceCtorEq, Nat.reduceBEq]) | (simp (disch := first | assumption | omega | exact Seg.len _ | exact Vec.len _ | exact Leg.len _ | exact num_len _ | exact rowA_len _ | exact rowA_len | exact rowT_len _ | exact rowT_len | exact Seg.len | exact Vec.len | exact Leg.len | exact num_len | exact AV.slen _ _ | rfl) only [vP]) | ((with_reducible first | refine gsnd ?_ ?_ | refine csnd ?_ ?_ | refine gsd ?_ ?_ | refine csd ?_ ?_ | refine gsn ?_ ?_ | refine csn ?_ ?_ | refine gs ?_ ?_ | refine cs_ ?_ ?_) <;> intro _) | (with_reducible refine objQ_i (fun _ _ => ?_); (repeat (with_reducible refine imp_i (fun _ => ?_))))))
    rename_i bf hf
    exact ⟨_, St.le.refl _, bf, hf, rfl, rfl⟩
  refine h.wk ?_
  rintro _ _ ⟨bf, hf, rfl, rfl⟩
  (refine ⟨_, st, (Wk.fz _ (b := bf) (x := .sl (l.map Vec.a) t) (by first | (simp only [St.ins, St.del, *, if_true, if_false, eq_self, not_false_eq_true, ite_true, ite_false]; first | done | rfl) | (simp [St.ins, St.del, *]; done) | (simp [St.ins, St.del, *]; rfl)) (by first | rfl | simp [okEl, AV.cells, AV.isCell]) (by first | exact Nat.zero_lt_succ _ | simp [AV.cells]) _).trans (Wk.le (by (refine ⟨fun i o e => ?_, fun _ h => h⟩; revert e; simp only [St.ins, St.del, add_objs, kill_objs]; (repeat' split); all_goals (first | exact id | (intros; contradiction) | (intros; subst_vars; contradiction) | (intros; simp_all; done) | (intros; subst_vars; simp_all; done)))) _), ?_⟩; simp only [AV.sub, AV.subL, *, if_true, if_false, eq_self, ite_true, ite_false])
  try exact ⟨trivial, trivial⟩
theorem times_it (l : List Vec) (hn : l.length ≤ 1000000000) (hb : ∀ w ∈ l, -9000000000000000000 ≤ w.m ∧ w.c ≤ 9000000000000000000) (t : Tok) : VIter Try.prog 91 [] [.iptr (.sl (l.map Vec.a) t) 0] ((allT l).map fun v => [num v]) := by
  intro Y ll I E S0 h0 hy
  obtain ⟨L, hL⟩ : ∃ L, allT l = L := ⟨_, rfl⟩
  simp only [hL, List.length_map, List.getElem_map] at hy ⊢
  have HL : Hid (L = allT l) := ⟨hL.symm⟩
  have HB := Hid.mk hb
  have HY : Hid (∀ k it r, L.drop k = it :: r → ∀ S, I k S → VYield Try.prog Y ll [num it] S (YY I E k)) := ⟨fun k it r h => by
    obtain ⟨hk, rfl, _⟩ := drop_cons h
    exact hy k hk⟩
  clear hL hy hb
  refine VCalls.of v_cost_times_1_ok (Nat.le_of_ble_eq_true rfl) ?_
  simp only [v_cost_times_1, List.nil_append, List.cons_append, ↓vD, vU, ↓vMd, vMu, VE.ev, VE.evs, retvs, tupOf, grab, vfill, vbsl, eqCells, eqCell, veqs, veqs1, vmnx, AV.isCell, AV.isUndef, Nat.reduceEqDiff, Nat.reduceAdd, Nat.reduceSub, Nat.reduceLeDiff, Nat.reduceLT, reduceIte, reduceCtorEq, Nat.reduceBEq, k_app, k_slc1]
  (repeat' (first | (simp (config := { maxDischargeDepth := 16 }) only [*, num, vX, Int.reduceLE, Int.reduceLT, Int.reduceGE, Int.reduceGT, Int.reduceBEq, Int.reduceBNe, Int.reduceAdd, Int.reduceSub, Int.reduceMul, Int.reduceNeg, ↓vD, vU, ↓vMd, vMu, VE.ev, VE.evs, retvs, tupOf, grab, vfill, vbsl, eqCells, eqCell, veqs, veqs1, vmnx, AV.isCell, AV.isUndef, Nat.reduceEqDiff, Nat.reduceAdd, Nat.reduceSub, Nat.reduceLeDiff, Nat.reduceLT, reduceIte, reduceCtorEq, Nat.reduceBEq]) | (simp (disch := first | assumption | omega | exact Seg.len _ | exact Vec.len _ | exact Leg.len _ | exact num_len _ | exact rowA_len _ | exact rowA_len | exact rowT_len _ | exact rowT_len | exact Seg.len | exact Vec.len | exact Leg.len | exact num_len | exact AV.slen _ _ | rfl) only [num, vP]) | ((with_reducible first | refine gsnd ?_ ?_ | refine csnd ?_ ?_ | refine gsd ?_ ?_ | refine csd ?_ ?_ | refine gsn ?_ ?_ | refine csn ?_ ?_ | refine gs ?_ ?_ | refine cs_ ?_ ?_) <;> intro _) | (with_reducible refine objQ_i (fun _ _ => ?_); (repeat (with_reducible refine imp_i (fun _ => ?_))))))
  refine loopf_of (len := l.length) (by simp only [asgL, dsts, List.cons_append, List.nil_append, List.append_nil]; rfl) (by simp only [noR, Bool.and_true, Bool.and_false]; rfl) (by omega) (fun k fr s => ∃ (j : Nat), fr.t 8 = .int .i64 k ∧ I j s ∧ j ≤ L.length ∧ Hid (L.drop j = allT (l.drop k))) ?_ ?_ ?_
  · exact ⟨0, by simp [↓vD, vU, ↓vMd, vMu, VE.ev, VE.evs, retvs, tupOf, grab, vfill, vbsl, eqCells, eqCell, veqs, veqs1, vmnx, AV.isCell, AV.isUndef, Nat.reduceEqDiff, Nat.reduceAdd, Nat.reduceSub, Nat.reduceLeDiff, Nat.reduceLT, reduceIte, reduceCtorEq, Nat.reduceBEq, k_app, k_slc1], h0, by omega, ⟨by rw [HL.out]; rfl⟩⟩
  · rintro k fr s hk hwr hfr hd ⟨j, h8, hI, hj, HK⟩
    obtain ⟨w, hx⟩ : ∃ w, l[k] = w := ⟨_, rfl⟩
    have hwb := HB.out w (by rw [← hx]; exact List.getElem_mem _)
    obtain ⟨wb1, wb2⟩ := hwb
    have HD : Hid (L.drop j = ticks w.m w.c ++ allT (l.drop (k + 1))) := ⟨by rw [HK.out, List.drop_eq_getElem_cons hk, hx, allT_cons]⟩
    clear HK
    (repeat' (first | (simp (config := { maxDischargeDepth := 16 }) only [*, num, Vec.a, vX, Int.reduceLE, Int.reduceLT, Int.reduceGE, Int.reduceGT, Int.reduceBEq, Int.reduceBNe, Int.reduceAdd, Int.reduceSub, Int.reduceMul, Int.reduceNeg, ↓vD, vU, ↓vMd, vMu, VE.ev, VE.evs, retvs, tupOf, grab, vfill, vbsl, eqCells, eqCell, veqs, veqs1, vmnx, AV.isCell, AV.isUndef, Nat.reduceEqDiff, Nat.reduceAdd, Nat.reduceSub, Nat.reduceLeDiff, Nat.reduceLT, reduceIte, reduceCtorEq, Nat.reduceBEq]) | (simp (disch := first | assumption | omega | exact Seg.len _ | exact Vec.len _ | exact Leg.len _ | exact num_len _ | exact rowA_len _ | exact rowA_len | exact rowT_len _ | exact rowT_len | exact Seg.len | exact Vec.len | exact Leg.len | exact num_len | exact AV.slen _ _ | rfl) only [num, Vec.a, vP]) | ((with_reducible first | refine gsnd ?_ ?_ | refine csnd ?_ ?_ | refine gsd ?_ ?_ | refine csd ?_ ?_ | refine gsn ?_ ?_ | refine csn ?_ ?_ | refine gs ?_ ?_ | refine cs_ ?_ ?_) <;> intro _) | (with_reducible refine objQ_i (fun _ _ => ?_); (repeat (with_reducible refine imp_i (fun _ => ?_))))))
    rename_i b4 h4
    refine loopr_of (by simp only [asgL, dsts, List.cons_append, List.nil_append, List.append_nil]; rfl) (by simp only [noR, Bool.and_true, Bool.and_false]; rfl) (fun r fr2 s2 => ∃ (i : Nat) (p : Int) (S : St), s2 = S.ins b4 (.cells [.int .i64 w.m, .int .i64 w.c]) ∧ fr2.t 5 = .int .i64 p ∧ w.m ≤ p ∧ I i S ∧ S.objs b4 = none ∧ i ≤ L.length ∧ r = (w.c - p).toNat ∧ Hid (L.drop i = ticks p w.c ++ allT (l.drop (k + 1)))) ?_ ?_
    · exact ⟨_, j, w.m, s, rfl, by simp [↓vD, vU, ↓vMd, vMu, VE.ev, VE.evs, retvs, tupOf, grab, vfill, vbsl, eqCells, eqCell, veqs, veqs1, vmnx, AV.isCell, AV.isUndef, Nat.reduceEqDiff, Nat.reduceAdd, Nat.reduceSub, Nat.reduceLeDiff, Nat.reduceLT, reduceIte, reduceCtorEq, Nat.reduceBEq, k_app, k_slc1], Int.le_refl _, hI, h4, hj, rfl, HD⟩
    · rintro r fr2 s2 hfr2 hd2 ⟨i, p, S, rfl, h5, hp, hI2, hS4, hi, hr, HT⟩
      by_cases hpc : p < w.c
      · have hT := HT.out
        rw [ticks_cons hpc, List.cons_append] at hT
        have HT2 := Hid.mk hT
        have HR := Hid.mk hr
        clear hT HT hr
        (repeat' (first | (simp (config := { maxDischargeDepth := 16 }) only [*, num, Vec.a, vX, Int.reduceLE, Int.reduceLT, Int.reduceGE, Int.reduceGT, Int.reduceBEq, Int.reduceBNe, Int.reduceAdd, Int.reduceSub, Int.reduceMul, Int.reduceNeg, ↓vD, vU, ↓vMd, vMu, VE.ev, VE.evs, retvs, tupOf, grab, vfill, vbsl, eqCells, eqCell, veqs, veqs1, vmnx, AV.isCell, AV.isUndef, Nat.reduceEqDiff, Nat.reduceAdd, Nat.reduceSub, Nat.reduceLeDiff, Nat.reduceLT, reduceIte, reduceCtorEq, Nat.reduceBEq]) | (simp (disch := first | assumption | omega | exact Seg.len _ | exact Vec.len _ | exact Leg.len _ | exact num_len _ | exact rowA_len _ | exact rowA_len | exact rowT_len _ | exact rowT_len | exact Seg.len | exact Vec.len | exact Leg.len | exact num_len | exact AV.slen _ _ | rfl) only [num, Vec.a, vP]) | ((with_reducible first | refine gsnd ?_ ?_ | refine csnd ?_ ?_ | refine gsd ?_ ?_ | refine csd ?_ ?_ | refine gsn ?_ ?_ | refine csn ?_ ?_ | refine gs ?_ ?_ | refine cs_ ?_ ?_) <;> intro _) | (with_reducible refine objQ_i (fun _ _ => ?_); (repeat (with_reducible refine imp_i (fun _ => ?_))))))
        refine yieldH_then ((HY.out i _ _ HT2.out S hI2).frame b4 _ hS4) rfl ?_
        rintro _ _ ⟨s0, hyy, q4, rfl⟩
        obtain ⟨hj2, _, hd3⟩ := drop_cons HT2.out
        rcases hyy with ⟨rfl, S', hI', hle'⟩ | ⟨rfl, S', hE', hle'⟩
        · have HT3 : Hid (L.drop (i + 1) = ticks (p + 1) w.c ++ allT (l.drop (k + 1))) := ⟨hd3⟩
          clear HT2 hd3
          (repeat' (first | (simp (config := { maxDischargeDepth := 16 }) only [*, num, Vec.a, vX, Int.reduceLE, Int.reduceLT, Int.reduceGE, Int.reduceGT, Int.reduceBEq, Int.reduceBNe, Int.reduceAdd, Int.reduceSub, Int.reduceMul, Int.reduceNeg, ↓vD, vU, ↓vMd, vMu, VE.ev, VE.evs, retvs, tupOf, grab, vfill, vbsl, eqCells, eqCell, veqs, veqs1, vmnx, AV.isCell, AV.isUndef, Nat.reduceEqDiff, Nat.reduceAdd, Nat.reduceSub, Nat.reduceLeDiff, Nat.reduceLT, reduceIte, reduceCtorEq, Nat.reduceBEq]) | (simp (disch := first | assumption | omega | exact Seg.len _ | exact Vec.len _ | exact Leg.len _ | exact num_len _ | exact rowA_len _ | exact rowA_len | exact rowT_len _ | exact rowT_len | exact Seg.len | exact Vec.len | exact Leg.len | exact num_len | exact AV.slen _ _ | rfl) only [num, Vec.a, vP]) | ((with_reducible first | refine gsnd ?_ ?_ | refine csnd ?_ ?_ | refine gsd ?_ ?_ | refine csd ?_ ?_ | refine gsn ?_ ?_ | refine csn ?_ ?_ | refine gs ?_ ?_ | refine cs_ ?_ ?_) <;> intro _) | (with_reducible refine objQ_i (fun _ _ => ?_); (repeat (with_reducible refine imp_i (fun _ => ?_))))))
          exact ⟨_, St.le.ins hle' b4 _, _, by have := HR.out; omega, i + 1, p + 1, S', rfl, rfl, by omega, hI', hle'.none q4, by omega, rfl, HT3⟩
        · (repeat' (first | (simp (config := { maxDischargeDepth := 16 }) only [*, num, Vec.a, vX, Int.reduceLE, Int.reduceLT, Int.reduceGE, Int.reduceGT, Int.reduceBEq, Int.reduceBNe, Int.reduceAdd, Int.reduceSub, Int.reduceMul, Int.reduceNeg, ↓vD, vU, ↓vMd, vMu, VE.ev, VE.evs, retvs, tupOf, grab, vfill, vbsl, eqCells, eqCell, veqs, veqs1, vmnx, AV.isCell, AV.isUndef, Nat.reduceEqDiff, Nat.reduceAdd, Nat.reduceSub, Nat.reduceLeDiff, Nat.reduceLT, reduceIte, reduceCtorEq, Nat.reduceBEq]) | (simp (disch := first | assumption | omega | exact Seg.len _ | exact Vec.len _ | exact Leg.len _ | exact num_len _ | exact rowA_len _ | exact rowA_len | exact rowT_len _ | exact rowT_len | exact Seg.len | exact Vec.len | exact Leg.len | exact num_len | exact AV.slen _ _ | rfl) only [num, Vec.a, vP]) | ((with_reducible first | refine gsnd ?_ ?_ | refine csnd ?_ ?_ | refine gsd ?_ ?_ | refine csd ?_ ?_ | refine gsn ?_ ?_ | refine csn ?_ ?_ | refine gs ?_ ?_ | refine cs_ ?_ ?_) <;> intro _) | (with_reducible refine objQ_i (fun _ _ => ?_); (repeat (with_reducible refine imp_i (fun _ => ?_))))))
          exact ⟨_, St.le.refl _, S', .inr hE', hle'.trans (by (refine ⟨fun i o e => ?_, fun _ h => h⟩; revert e; simp only [St.ins, St.del, add_objs, kill_objs]; (repeat' split); all_goals (first | exact id | (intros; contradiction) | (intros; subst_vars; contradiction) | (intros; simp_all; done) | (intros; subst_vars; simp_all; done))))⟩
      · have hT := HT.out
        rw [ticks_nil (by omega), List.nil_append] at hT
        have HT2 := Hid.mk hT
        clear hT HT hr
        (repeat' (first | (simp (config := { maxDischargeDepth := 16 }) only [*, num, Vec.a, vX, Int.reduceLE, Int.reduceLT, Int.reduceGE, Int.reduceGT, Int.reduceBEq, Int.reduceBNe, Int.reduceAdd, Int.reduceSub, Int.reduceMul, Int.reduceNeg, ↓vD, vU, ↓vMd, vMu, VE.ev, VE.evs, retvs, tupOf, grab, vfill, vbsl, eqCells, eqCell, veqs, veqs1, vmnx, AV.isCell, AV.isUndef, Nat.reduceEqDiff, Nat.reduceAdd, Nat.reduceSub, Nat.reduceLeDiff, Nat.reduceLT, reduceIte, reduceCtorEq, Nat.reduceBEq]) | (simp (disch := first | assumption | omega | exact Seg.len _ | exact Vec.len _ | exact Leg.len _ | exact num_len _ | exact rowA_len _ | exact rowA_len | exact rowT_len _ | exact rowT_len | exact Seg.len | exact Vec.len | exact Leg.len | exact num_len | exact AV.slen _ _ | rfl) only [num, Vec.a, vP]) | ((with_reducible first | refine gsnd ?_ ?_ | refine csnd ?_ ?_ | refine gsd ?_ ?_ | refine csd ?_ ?_ | refine gsn ?_ ?_ | refine csn ?_ ?_ | refine gs ?_ ?_ | refine cs_ ?_ ?_) <;> intro _) | (with_reducible refine objQ_i (fun _ _ => ?_); (repeat (with_reducible refine imp_i (fun _ => ?_))))))
        exact ⟨_, by (refine ⟨fun i o e => ?_, fun _ h => h⟩; revert e; simp only [St.ins, St.del, add_objs, kill_objs]; (repeat' split); all_goals (first | exact id | (intros; contradiction) | (intros; subst_vars; contradiction) | (intros; simp_all; done) | (intros; subst_vars; simp_all; done))), i, hI2, hi, HT2⟩
  · rintro fr s hfr hd ⟨j, h8, hI, hj, HK⟩
    rw [List.drop_length] at HK
    have hjl : j = L.length := by have := List.drop_eq_nil_iff.1 HK.out; omega
    subst hjl
    (repeat' (first | (simp (config := { maxDischargeDepth := 16 }) only [*, num, vX, Int.reduceLE, Int.reduceLT, Int.reduceGE, Int.reduceGT, Int.reduceBEq, Int.reduceBNe, Int.reduceAdd, Int.reduceSub, Int.reduceMul, Int.reduceNeg, ↓vD, vU, ↓vMd, vMu, VE.ev, VE.evs, retvs, tupOf, grab, vfill, vbsl, eqCells, eqCell, veqs, veqs1, vmnx, AV.isCell, AV.isUndef, Nat.reduceEqDiff, Nat.reduceAdd, Nat.reduceSub, Nat.reduceLeDiff, Nat.reduceLT, reduceIte, reduceCtorEq, Nat.reduceBEq]) | (simp (disch := first | assumption | omega | exact Seg.len _ | exact Vec.len _ | exact Leg.len _ | exact num_len _ | exact rowA_len _ | exact rowA_len | exact rowT_len _ | exact rowT_len | exact Seg.len | exact Vec.len | exact Leg.len | exact num_len | exact AV.slen _ _ | rfl) only [num, vP]) | ((with_reducible first | refine gsnd ?_ ?_ | refine csnd ?_ ?_ | refine gsd ?_ ?_ | refine csd ?_ ?_ | refine gsn ?_ ?_ | refine csn ?_ ?_ | refine gs ?_ ?_ | refine cs_ ?_ ?_) <;> intro _) | (with_reducible refine objQ_i (fun _ _ => ?_); (repeat (with_reducible refine imp_i (fun _ => ?_))))))
    exact ⟨_, St.le.refl _, s, .inl hI, St.le.refl _⟩
end Go.Proofs.Ytglekfgoadehbaa.V
end
section
set_option linter.unusedSimpArgs false
set_option linter.unusedVariables false
/- slices.Collect at int64, as a row of its own. -/
namespace Go.Proofs.Ytglekfgoadehbaa.V
open Go Go.Proofs
set_option maxRecDepth 100000
set_option maxHeartbeats 4000000
theorem fl_num (xs : List Int) : fl num xs = xs.map num := by
  induction xs with
  | nil => rfl
  | cons x r ih => rw [fl_cons, ih]; rfl
theorem cells_osl (b n c : Nat) : (AV.osl b n c).cells = [.osl b n c] := rfl
theorem isCell_osl (b n c : Nat) : (AV.osl b n c).isCell = true := rfl
theorem del_at (st : St) (b i : Nat) : (st.del b).objs i = if i = b then none else st.objs i := rfl
theorem del_ins_ (st : St) (b : Nat) (o : AObj) : (st.del b).ins b o = st.ins b o := by
  cases st; simp only [St.ins, St.del, St.mk.injEq, and_true]; funext i; split <;> rfl
theorem AppendSeq_c {Z : Im} {st : St} (xs : List Int) (hn : xs.length ≤ 1000000) {gf : Nat} {fs cs : List AV} (hi : VIter Try.prog gf fs cs (xs.map fun v => [num v])) :
    VCalls Try.prog Z 90 [.sl [] .full, .clo gf fs cs] st (fun r s => (xs = [] ∧ r = .sl [] .full ∧ s = st) ∨ ∃ b c rest, xs ≠ [] ∧ st.objs b = none ∧ (xs.length ≤ c ∧ rest.length = c - xs.length) ∧ r = .osl b xs.length c ∧ s = ob st b num rest xs) := by
  refine VCalls.of v_slices_AppendSeq_int64_int64_ok (Nat.le_of_ble_eq_true rfl) ?_
  simp only [v_slices_AppendSeq_int64_int64, ↓vD, vU, ↓vMd, vMu, VE.ev, VE.evs, retvs, tupOf, grab, vfill, vbsl, eqCells, eqCell, veqs, veqs1, vmnx, AV.isCell, AV.isUndef, Nat.reduceEqDiff, Nat.reduceAdd, Nat.reduceSub, Nat.reduceLeDiff, Nat.reduceLT, reduceIte, reduceCtorEq, Nat.reduceBEq, k_app, k_slc1]
  (repeat' (first | (simp (config := { maxDischargeDepth := 16 }) only [*, vX, Int.reduceLE, Int.reduceLT, Int.reduceGE, Int.reduceGT, Int.reduceBEq, Int.reduceBNe, Int.reduceAdd, Int.reduceSub, Int.reduceMul, Int.reduceNeg, ↓vD, vU, ↓vMd, vMu, VE.ev, VE.evs, retvs, tupOf, grab, vfill, vbsl, eqCells, eqCell, veqs, veqs1, vmnx, AV.isCell, AV.isUndef, Nat.reduceEqDiff, Nat.reduceAdd, Nat.reduceSub, Nat.reduceLeDiff, Nat.reduceLT, reduceIte, reduceCtorEq, Nat.reduceBEq]) | (simp (disch := first | assumption | omega | exact Seg.len _ | exact Vec.len _ | exact Leg.len _ | exact num_len _ | exact rowA_len _ | exact rowA_len | exact rowT_len _ | exact rowT_len | exact Seg.len | exact Vec.len | exact Leg.len | exact num_len | exact AV.slen _ _ | rfl) only [vP]) | ((with_reducible first | refine gsnd ?_ ?_ | refine csnd ?_ ?_ | refine gsd ?_ ?_ | refine csd ?_ ?_ | refine gsn ?_ ?_ | refine csn ?_ ?_ | refine gs ?_ ?_ | refine cs_ ?_ ?_) <;> intro _) | (with_reducible refine objQ_i (fun _ _ => ?_); (repeat (with_reducible refine imp_i (fun _ => ?_)))) | ((try with_reducible refine appK_a ?_); first | (with_reducible refine appD_F (by refine ⟨?_, ?_, ?_, ?_⟩ <;> (first | assumption | omega | exact St.has_add (by assumption) | (simp only [ins_has]; exact St.has_add (by assumption)) | (simp only [ins_has, fresh_ins, kill_ins, add_ins] at *; exact St.has_add (by assumption)) | (simp only [*, ins_has, has_full, St.has_add]; done) | (simp [-List.map_take, -List.map_drop, or_imp, forall_and, Seg.a, Vec.a, Leg.a, num, okEl, cells_agg, cells_int, cells_sl, cells_bool, AV.isCell]; done) | (simp; omega))) (fun _ _ => ?_)) | (with_reducible refine appD_V (by refine ⟨?_, ?_, ?_, ?_, ?_⟩ <;> (first | assumption | omega | exact St.has_add (by assumption) | (simp only [ins_has]; exact St.has_add (by assumption)) | (simp only [ins_has, fresh_ins, kill_ins, add_ins] at *; exact St.has_add (by assumption)) | (simp only [*, ins_has, has_full, St.has_add]; done) | (simp [-List.map_take, -List.map_drop, or_imp, forall_and, Seg.a, Vec.a, Leg.a, num, okEl, cells_agg, cells_int, cells_sl, cells_bool, AV.isCell]; done) | (simp; omega))) (fun _ _ => ?_))) | (with_reducible refine freshQ_i (fun _ _ => ?_))))
  rename_i b2 h2
  refine rng_iter (by simp only [↓vD, vU, ↓vMd, vMu, VE.ev, VE.evs, retvs, tupOf, grab, vfill, vbsl, eqCells, eqCell, veqs, veqs1, vmnx, AV.isCell, AV.isUndef, Nat.reduceEqDiff, Nat.reduceAdd, Nat.reduceSub, Nat.reduceLeDiff, Nat.reduceLT, reduceIte, reduceCtorEq, Nat.reduceBEq, k_app, k_slc1]) hi (by simp) (fun k T => (k = 0 ∧ T = st.ins b2 (.cells [.sl [] .full])) ∨ ∃ b c rest, 0 < k ∧ st.objs b = none ∧ ¬ b = b2 ∧ ¬ b2 = b ∧ k ≤ c ∧ rest.length = c - k ∧ T = (st.ins b2 (.cells [.osl b k c])).ins b (.cells ((xs.take k).map num ++ rest))) (fun _ _ => False) (.inl ⟨rfl, rfl⟩) ?_ ?_ (by intro _ _ _ _ _ _ _ h; exact h.elim)
  · rintro Y l0 D r hzy nlD nDl k hk T hT hTl hTD
    rw [List.length_map] at hk
    simp only [List.getElem_map]
    obtain ⟨x, hx⟩ : ∃ x, xs[k] = x := ⟨_, rfl⟩
    have HX : Hid ((xs.take (k + 1)).map num = (xs.take k).map num ++ [num x]) := ⟨by rw [List.take_add_one, List.getElem?_eq_getElem hk, hx, List.map_append]; rfl⟩
    rw [hx]
    clear hx
    rcases hT with ⟨rfl, rfl⟩ | ⟨b, c, rest, hk0, hb, n1, n2, hkc, hr, rfl⟩
    · simp only [ins_objs, ite_some_none] at hTl hTD
      obtain ⟨q1, q2, q3⟩ := hTl
      obtain ⟨r1, r2, r3⟩ := hTD
      (repeat' (first | (simp (config := { maxDischargeDepth := 16 }) only [*, argsFr1_t, argsFr1_d, num, rq_normal, ↓vD, vU, ↓vMd, vMu, VE.ev, VE.evs, retvs, tupOf, grab, vfill, vbsl, eqCells, eqCell, veqs, veqs1, vmnx, AV.isCell, AV.isUndef, Nat.reduceEqDiff, Nat.reduceAdd, Nat.reduceSub, Nat.reduceLeDiff, Nat.reduceLT, reduceIte, reduceCtorEq, Nat.reduceBEq, k_app, k_slc1]) | (with_reducible refine gs (fun _ => ?_) (fun _ => ?_)) | (with_reducible refine cs_ (fun _ => ?_) (fun _ => ?_)) | (with_reducible refine objQ_i (fun _ _ => ?_); (repeat (with_reducible refine imp_i (fun _ => ?_)))) | (with_reducible refine freshQ_i (fun _ _ => ?_))))
      refine appK_new (by simp) (by simp) (by simp [okEl, AV.cells, AV.isCell]) (by simp) (by simp) ?_
      intro b c rest hb hc hr
      simp only [ins_objs, ite_some_none] at hb
      simp only [List.length_nil, List.length_cons, Nat.zero_add, Nat.mul_one] at hc hr
      obtain ⟨n1, n2, n3, n4, n5, n6, hb⟩ := hb
      (repeat' (first | (simp (config := { maxDischargeDepth := 16 }) only [*, argsFr1_t, argsFr1_d, num, rq_normal, cells_osl, isCell_osl, vX, Int.reduceLE, Int.reduceLT, Int.reduceGE, Int.reduceGT, Int.reduceBEq, Int.reduceBNe, Int.reduceAdd, Int.reduceSub, Int.reduceMul, Int.reduceNeg, ↓vD, vU, ↓vMd, vMu, VE.ev, VE.evs, retvs, tupOf, grab, vfill, vbsl, eqCells, eqCell, veqs, veqs1, vmnx, AV.isCell, AV.isUndef, Nat.reduceEqDiff, Nat.reduceAdd, Nat.reduceSub, Nat.reduceLeDiff, Nat.reduceLT, reduceIte, reduceCtorEq, Nat.reduceBEq]) | (simp (disch := first | assumption | omega | exact Seg.len _ | exact Vec.len _ | exact Leg.len _ | exact num_len _ | exact rowA_len _ | exact rowA_len | exact rowT_len _ | exact rowT_len | exact Seg.len | exact Vec.len | exact Leg.len | exact num_len | exact AV.slen _ _ | rfl) only [argsFr1_t, argsFr1_d, num, rq_normal, cells_osl, isCell_osl, vP]) | ((with_reducible first | refine gsnd ?_ ?_ | refine csnd ?_ ?_ | refine gsd ?_ ?_ | refine csd ?_ ?_ | refine gsn ?_ ?_ | refine csn ?_ ?_ | refine gs ?_ ?_ | refine cs_ ?_ ?_) <;> intro _) | (with_reducible refine objQ_i (fun _ _ => ?_); (repeat (with_reducible refine imp_i (fun _ => ?_)))) | ((try with_reducible refine appK_a ?_); first | (with_reducible refine appD_F (by refine ⟨?_, ?_, ?_, ?_⟩ <;> (first | assumption | omega | exact St.has_add (by assumption) | (simp only [ins_has]; exact St.has_add (by assumption)) | (simp only [ins_has, fresh_ins, kill_ins, add_ins] at *; exact St.has_add (by assumption)) | (simp only [*, ins_has, has_full, St.has_add]; done) | (simp [-List.map_take, -List.map_drop, or_imp, forall_and, Seg.a, Vec.a, Leg.a, num, okEl, cells_agg, cells_int, cells_sl, cells_bool, AV.isCell]; done) | (simp; omega))) (fun _ _ => ?_)) | (with_reducible refine appD_V (by refine ⟨?_, ?_, ?_, ?_, ?_⟩ <;> (first | assumption | omega | exact St.has_add (by assumption) | (simp only [ins_has]; exact St.has_add (by assumption)) | (simp only [ins_has, fresh_ins, kill_ins, add_ins] at *; exact St.has_add (by assumption)) | (simp only [*, ins_has, has_full, St.has_add]; done) | (simp [-List.map_take, -List.map_drop, or_imp, forall_and, Seg.a, Vec.a, Leg.a, num, okEl, cells_agg, cells_int, cells_sl, cells_bool, AV.isCell]; done) | (simp; omega))) (fun _ _ => ?_))) | (with_reducible refine freshQ_i (fun _ _ => ?_))))
      refine ⟨(st.ins b2 (.cells [.osl b 1 c])).ins b (.cells ((xs.take 1).map num ++ rest)), ⟨.inr ⟨b, c, rest, hb, n5, n6, hc, hr, rfl⟩, ?_⟩, ?_, ?_⟩
      · simp only [St.ins, r1, n4, r3, n3, if_false]
      · simp only [St.ins, *, if_false]
      · rw [HX.out]; (refine ⟨fun i o e => ?_, fun _ h => h⟩; revert e; simp only [St.ins, St.del, add_objs, kill_objs]; (repeat' split); all_goals (first | exact id | (intros; contradiction) | (intros; subst_vars; contradiction) | (intros; simp_all; done) | (intros; subst_vars; simp_all; done)))
    · simp only [ins_objs, ite_some_none] at hTl hTD
      obtain ⟨q1, q2, q3, q4, q5⟩ := hTl
      obtain ⟨r1, r2, r3, r4, r5⟩ := hTD
      (repeat' (first | (simp (config := { maxDischargeDepth := 16 }) only [*, argsFr1_t, argsFr1_d, num, rq_normal, ↓vD, vU, ↓vMd, vMu, VE.ev, VE.evs, retvs, tupOf, grab, vfill, vbsl, eqCells, eqCell, veqs, veqs1, vmnx, AV.isCell, AV.isUndef, Nat.reduceEqDiff, Nat.reduceAdd, Nat.reduceSub, Nat.reduceLeDiff, Nat.reduceLT, reduceIte, reduceCtorEq, Nat.reduceBEq, k_app, k_slc1]) | (with_reducible refine gs (fun _ => ?_) (fun _ => ?_)) | (with_reducible refine cs_ (fun _ => ?_) (fun _ => ?_)) | (with_reducible refine objQ_i (fun _ _ => ?_); (repeat (with_reducible refine imp_i (fun _ => ?_)))) | (with_reducible refine freshQ_i (fun _ _ => ?_))))
      refine appK_osl (cs := (xs.take k).map num ++ rest) (by simp [St.ins, *]) (by simp; omega) (by simp [okEl, AV.cells, AV.isCell]) (by simp; omega) (by simp; omega) ?_
      intro b' c' rest' hb' hc' hr'
      simp only [List.length_cons, List.length_nil, Nat.zero_add, Nat.mul_one] at hc' hr'
      have hcs : ((xs.take k).map num ++ rest).take (k * 1) = (xs.take k).map num := by
        rw [Nat.mul_one, List.take_append_of_le_length (by simp; omega), List.take_of_length_le (by simp; omega)]
      rw [hcs]
      clear hcs
      rcases hb' with rfl | hb'
      · rw [del_ins_]
        (repeat' (first | (simp (config := { maxDischargeDepth := 16 }) only [*, argsFr1_t, argsFr1_d, num, rq_normal, cells_osl, isCell_osl, vX, Int.reduceLE, Int.reduceLT, Int.reduceGE, Int.reduceGT, Int.reduceBEq, Int.reduceBNe, Int.reduceAdd, Int.reduceSub, Int.reduceMul, Int.reduceNeg, ↓vD, vU, ↓vMd, vMu, VE.ev, VE.evs, retvs, tupOf, grab, vfill, vbsl, eqCells, eqCell, veqs, veqs1, vmnx, AV.isCell, AV.isUndef, Nat.reduceEqDiff, Nat.reduceAdd, Nat.reduceSub, Nat.reduceLeDiff, Nat.reduceLT, reduceIte, reduceCtorEq, Nat.reduceBEq]) | (simp (disch := first | assumption | omega | exact Seg.len _ | exact Vec.len _ | exact Leg.len _ | exact num_len _ | exact rowA_len _ | exact rowA_len | exact rowT_len _ | exact rowT_len | exact Seg.len | exact Vec.len | exact Leg.len | exact num_len | exact AV.slen _ _ | rfl) only [argsFr1_t, argsFr1_d, num, rq_normal, cells_osl, isCell_osl, vP]) | ((with_reducible first | refine gsnd ?_ ?_ | refine csnd ?_ ?_ | refine gsd ?_ ?_ | refine csd ?_ ?_ | refine gsn ?_ ?_ | refine csn ?_ ?_ | refine gs ?_ ?_ | refine cs_ ?_ ?_) <;> intro _) | (with_reducible refine objQ_i (fun _ _ => ?_); (repeat (with_reducible refine imp_i (fun _ => ?_)))) | ((try with_reducible refine appK_a ?_); first | (with_reducible refine appD_F (by refine ⟨?_, ?_, ?_, ?_⟩ <;> (first | assumption | omega | exact St.has_add (by assumption) | (simp only [ins_has]; exact St.has_add (by assumption)) | (simp only [ins_has, fresh_ins, kill_ins, add_ins] at *; exact St.has_add (by assumption)) | (simp only [*, ins_has, has_full, St.has_add]; done) | (simp [-List.map_take, -List.map_drop, or_imp, forall_and, Seg.a, Vec.a, Leg.a, num, okEl, cells_agg, cells_int, cells_sl, cells_bool, AV.isCell]; done) | (simp; omega))) (fun _ _ => ?_)) | (with_reducible refine appD_V (by refine ⟨?_, ?_, ?_, ?_, ?_⟩ <;> (first | assumption | omega | exact St.has_add (by assumption) | (simp only [ins_has]; exact St.has_add (by assumption)) | (simp only [ins_has, fresh_ins, kill_ins, add_ins] at *; exact St.has_add (by assumption)) | (simp only [*, ins_has, has_full, St.has_add]; done) | (simp [-List.map_take, -List.map_drop, or_imp, forall_and, Seg.a, Vec.a, Leg.a, num, okEl, cells_agg, cells_int, cells_sl, cells_bool, AV.isCell]; done) | (simp; omega))) (fun _ _ => ?_))) | (with_reducible refine freshQ_i (fun _ _ => ?_))))
        refine ⟨(st.ins b2 (.cells [.osl b' (k + 1) c'])).ins b' (.cells ((xs.take (k + 1)).map num ++ rest')), ⟨.inr ⟨b', c', rest', by omega, hb, n1, n2, hc', hr', rfl⟩, ?_⟩, ?_, ?_⟩
        · simp only [St.ins, *, if_false]
        · simp only [St.ins, *, if_false]
        · rw [HX.out]; (refine ⟨fun i o e => ?_, fun _ h => h⟩; revert e; simp only [St.ins, St.del, add_objs, kill_objs]; (repeat' split); all_goals (first | exact id | (intros; contradiction) | (intros; subst_vars; contradiction) | (intros; simp_all; done) | (intros; subst_vars; simp_all; done)))
      · simp only [ins_objs, ite_some_none] at hb'
        obtain ⟨m1, m2, m3, m4, m5, m6, m7, m8, hb'⟩ := hb'
        (repeat' (first | (simp (config := { maxDischargeDepth := 16 }) only [*, argsFr1_t, argsFr1_d, num, rq_normal, cells_osl, isCell_osl, del_at, vX, Int.reduceLE, Int.reduceLT, Int.reduceGE, Int.reduceGT, Int.reduceBEq, Int.reduceBNe, Int.reduceAdd, Int.reduceSub, Int.reduceMul, Int.reduceNeg, ↓vD, vU, ↓vMd, vMu, VE.ev, VE.evs, retvs, tupOf, grab, vfill, vbsl, eqCells, eqCell, veqs, veqs1, vmnx, AV.isCell, AV.isUndef, Nat.reduceEqDiff, Nat.reduceAdd, Nat.reduceSub, Nat.reduceLeDiff, Nat.reduceLT, reduceIte, reduceCtorEq, Nat.reduceBEq]) | (simp (disch := first | assumption | omega | exact Seg.len _ | exact Vec.len _ | exact Leg.len _ | exact num_len _ | exact rowA_len _ | exact rowA_len | exact rowT_len _ | exact rowT_len | exact Seg.len | exact Vec.len | exact Leg.len | exact num_len | exact AV.slen _ _ | rfl) only [argsFr1_t, argsFr1_d, num, rq_normal, cells_osl, isCell_osl, del_at, vP]) | ((with_reducible first | refine gsnd ?_ ?_ | refine csnd ?_ ?_ | refine gsd ?_ ?_ | refine csd ?_ ?_ | refine gsn ?_ ?_ | refine csn ?_ ?_ | refine gs ?_ ?_ | refine cs_ ?_ ?_) <;> intro _) | (with_reducible refine objQ_i (fun _ _ => ?_); (repeat (with_reducible refine imp_i (fun _ => ?_)))) | ((try with_reducible refine appK_a ?_); first | (with_reducible refine appD_F (by refine ⟨?_, ?_, ?_, ?_⟩ <;> (first | assumption | omega | exact St.has_add (by assumption) | (simp only [ins_has]; exact St.has_add (by assumption)) | (simp only [ins_has, fresh_ins, kill_ins, add_ins] at *; exact St.has_add (by assumption)) | (simp only [*, ins_has, has_full, St.has_add]; done) | (simp [-List.map_take, -List.map_drop, or_imp, forall_and, Seg.a, Vec.a, Leg.a, num, okEl, cells_agg, cells_int, cells_sl, cells_bool, AV.isCell]; done) | (simp; omega))) (fun _ _ => ?_)) | (with_reducible refine appD_V (by refine ⟨?_, ?_, ?_, ?_, ?_⟩ <;> (first | assumption | omega | exact St.has_add (by assumption) | (simp only [ins_has]; exact St.has_add (by assumption)) | (simp only [ins_has, fresh_ins, kill_ins, add_ins] at *; exact St.has_add (by assumption)) | (simp only [*, ins_has, has_full, St.has_add]; done) | (simp [-List.map_take, -List.map_drop, or_imp, forall_and, Seg.a, Vec.a, Leg.a, num, okEl, cells_agg, cells_int, cells_sl, cells_bool, AV.isCell]; done) | (simp; omega))) (fun _ _ => ?_))) | (with_reducible refine freshQ_i (fun _ _ => ?_))))
        refine ⟨(st.ins b2 (.cells [.osl b' (k + 1) c'])).ins b' (.cells ((xs.take (k + 1)).map num ++ rest')), ⟨.inr ⟨b', c', rest', by omega, hb', m7, m8, hc', hr', rfl⟩, ?_⟩, ?_, ?_⟩
        · simp only [St.ins, *, if_false]
        · simp only [St.ins, *, if_false]
        · rw [HX.out]; (refine ⟨fun i o e => ?_, fun _ h => h⟩; revert e; simp only [St.ins, St.del, add_objs, kill_objs]; (repeat' split); all_goals (first | exact id | (intros; contradiction) | (intros; subst_vars; contradiction) | (intros; simp_all; done) | (intros; subst_vars; simp_all; done)))
  · rintro D l0 o T nlD nDl hT hTl hTD
    rw [List.length_map] at hT
    rcases hT with ⟨hk, rfl⟩ | ⟨b, c, rest, hk0, hb, n1, n2, hkc, hr, rfl⟩
    · simp only [ins_objs, ite_some_none] at hTl hTD
      obtain ⟨q1, q2, q3⟩ := hTl
      obtain ⟨r1, r2, r3⟩ := hTD
      (repeat' (first | (simp (config := { maxDischargeDepth := 16 }) only [*, vX, Int.reduceLE, Int.reduceLT, Int.reduceGE, Int.reduceGT, Int.reduceBEq, Int.reduceBNe, Int.reduceAdd, Int.reduceSub, Int.reduceMul, Int.reduceNeg, ↓vD, vU, ↓vMd, vMu, VE.ev, VE.evs, retvs, tupOf, grab, vfill, vbsl, eqCells, eqCell, veqs, veqs1, vmnx, AV.isCell, AV.isUndef, Nat.reduceEqDiff, Nat.reduceAdd, Nat.reduceSub, Nat.reduceLeDiff, Nat.reduceLT, reduceIte, reduceCtorEq, Nat.reduceBEq]) | (simp (disch := first | assumption | omega | exact Seg.len _ | exact Vec.len _ | exact Leg.len _ | exact num_len _ | exact rowA_len _ | exact rowA_len | exact rowT_len _ | exact rowT_len | exact Seg.len | exact Vec.len | exact Leg.len | exact num_len | exact AV.slen _ _ | rfl) only [vP]) | ((with_reducible first | refine gsnd ?_ ?_ | refine csnd ?_ ?_ | refine gsd ?_ ?_ | refine csd ?_ ?_ | refine gsn ?_ ?_ | refine csn ?_ ?_ | refine gs ?_ ?_ | refine cs_ ?_ ?_) <;> intro _) | (with_reducible refine objQ_i (fun _ _ => ?_); (repeat (with_reducible refine imp_i (fun _ => ?_)))) | ((try with_reducible refine appK_a ?_); first | (with_reducible refine appD_F (by refine ⟨?_, ?_, ?_, ?_⟩ <;> (first | assumption | omega | exact St.has_add (by assumption) | (simp only [ins_has]; exact St.has_add (by assumption)) | (simp only [ins_has, fresh_ins, kill_ins, add_ins] at *; exact St.has_add (by assumption)) | (simp only [*, ins_has, has_full, St.has_add]; done) | (simp [-List.map_take, -List.map_drop, or_imp, forall_and, Seg.a, Vec.a, Leg.a, num, okEl, cells_agg, cells_int, cells_sl, cells_bool, AV.isCell]; done) | (simp; omega))) (fun _ _ => ?_)) | (with_reducible refine appD_V (by refine ⟨?_, ?_, ?_, ?_, ?_⟩ <;> (first | assumption | omega | exact St.has_add (by assumption) | (simp only [ins_has]; exact St.has_add (by assumption)) | (simp only [ins_has, fresh_ins, kill_ins, add_ins] at *; exact St.has_add (by assumption)) | (simp only [*, ins_has, has_full, St.has_add]; done) | (simp [-List.map_take, -List.map_drop, or_imp, forall_and, Seg.a, Vec.a, Leg.a, num, okEl, cells_agg, cells_int, cells_sl, cells_bool, AV.isCell]; done) | (simp; omega))) (fun _ _ => ?_))) | (with_reducible refine freshQ_i (fun _ _ => ?_))))
      exact ⟨_, st, rfl, fun D' hD => by rw [List.mem_singleton.1 hD]; exact ⟨by simp [St.ins, *], r3⟩, by simp, by (refine ⟨fun i o e => ?_, fun _ h => h⟩; revert e; simp only [St.ins, St.del, add_objs, kill_objs]; (repeat' split); all_goals (first | exact id | (intros; contradiction) | (intros; subst_vars; contradiction) | (intros; simp_all; done) | (intros; subst_vars; simp_all; done))), .inl ⟨List.length_eq_zero_iff.1 hk, rfl, rfl⟩⟩
    · simp only [ins_objs, ite_some_none] at hTl hTD
      obtain ⟨q1, q2, q3, q4, q5⟩ := hTl
      obtain ⟨r1, r2, r3, r4, r5⟩ := hTD
      (repeat' (first | (simp (config := { maxDischargeDepth := 16 }) only [*, vX, Int.reduceLE, Int.reduceLT, Int.reduceGE, Int.reduceGT, Int.reduceBEq, Int.reduceBNe, Int.reduceAdd, Int.reduceSub, Int.reduceMul, Int.reduceNeg, ↓vD, vU, ↓vMd, vMu, VE.ev, VE.evs, retvs, tupOf, grab, vfill, vbsl, eqCells, eqCell, veqs, veqs1, vmnx, AV.isCell, AV.isUndef, Nat.reduceEqDiff, Nat.reduceAdd, Nat.reduceSub, Nat.reduceLeDiff, Nat.reduceLT, reduceIte, reduceCtorEq, Nat.reduceBEq]) | (simp (disch := first | assumption | omega | exact Seg.len _ | exact Vec.len _ | exact Leg.len _ | exact num_len _ | exact rowA_len _ | exact rowA_len | exact rowT_len _ | exact rowT_len | exact Seg.len | exact Vec.len | exact Leg.len | exact num_len | exact AV.slen _ _ | rfl) only [vP]) | ((with_reducible first | refine gsnd ?_ ?_ | refine csnd ?_ ?_ | refine gsd ?_ ?_ | refine csd ?_ ?_ | refine gsn ?_ ?_ | refine csn ?_ ?_ | refine gs ?_ ?_ | refine cs_ ?_ ?_) <;> intro _) | (with_reducible refine objQ_i (fun _ _ => ?_); (repeat (with_reducible refine imp_i (fun _ => ?_)))) | ((try with_reducible refine appK_a ?_); first | (with_reducible refine appD_F (by refine ⟨?_, ?_, ?_, ?_⟩ <;> (first | assumption | omega | exact St.has_add (by assumption) | (simp only [ins_has]; exact St.has_add (by assumption)) | (simp only [ins_has, fresh_ins, kill_ins, add_ins] at *; exact St.has_add (by assumption)) | (simp only [*, ins_has, has_full, St.has_add]; done) | (simp [-List.map_take, -List.map_drop, or_imp, forall_and, Seg.a, Vec.a, Leg.a, num, okEl, cells_agg, cells_int, cells_sl, cells_bool, AV.isCell]; done) | (simp; omega))) (fun _ _ => ?_)) | (with_reducible refine appD_V (by refine ⟨?_, ?_, ?_, ?_, ?_⟩ <;> (first | assumption | omega | exact St.has_add (by assumption) | (simp only [ins_has]; exact St.has_add (by assumption)) | (simp only [ins_has, fresh_ins, kill_ins, add_ins] at *; exact St.has_add (by assumption)) | (simp only [*, ins_has, has_full, St.has_add]; done) | (simp [-List.map_take, -List.map_drop, or_imp, forall_and, Seg.a, Vec.a, Leg.a, num, okEl, cells_agg, cells_int, cells_sl, cells_bool, AV.isCell]; done) | (simp; omega))) (fun _ _ => ?_))) | (with_reducible refine freshQ_i (fun _ _ => ?_))))
      exact ⟨_, ob st b num rest xs, rfl, fun D' hD => by rw [List.mem_singleton.1 hD]; exact ⟨by simp [St.ins, *], by simp [ob, St.ins, *]⟩, by simp, by
        rw [ob, fl_num, List.take_length]; (refine ⟨fun i o e => ?_, fun _ h => h⟩; revert e; simp only [St.ins, St.del, add_objs, kill_objs]; (repeat' split); all_goals (first | exact id | (intros; contradiction) | (intros; subst_vars; contradiction) | (intros; simp_all; done) | (intros; subst_vars; simp_all; done))), .inr ⟨b, c, rest, by intro e; subst e; simp at hk0, hb, ⟨hkc, hr⟩, rfl, rfl⟩⟩
theorem Collect_c {Z : Im} {st : St} (xs : List Int) (hn : xs.length ≤ 1000000) {gf : Nat} {fs cs : List AV} (hi : VIter Try.prog gf fs cs (xs.map fun v => [num v])) :
    VCalls Try.prog Z 65 [.clo gf fs cs] st (fun r s => (xs = [] ∧ r = .sl [] .full ∧ s = st) ∨ ∃ b c rest, xs ≠ [] ∧ st.objs b = none ∧ (xs.length ≤ c ∧ rest.length = c - xs.length) ∧ r = .osl b xs.length c ∧ s = ob st b num rest xs) := by
  have h := AppendSeq_c (Z := Z) (st := st) xs hn hi
  refine VCalls.of v_slices_Collect_int64_ok (Nat.le_of_ble_eq_true rfl) ?_
  simp only [v_slices_Collect_int64, ↓vD, vU, ↓vMd, vMu, VE.ev, VE.evs, retvs, tupOf, grab, vfill, vbsl, eqCells, eqCell, veqs, veqs1, vmnx, AV.isCell, AV.isUndef, Nat.reduceEqDiff, Nat.reduceAdd, Nat.reduceSub, Nat.reduceLeDiff, Nat.reduceLT, reduceIte, reduceCtorEq, Nat.reduceBEq, k_app, k_slc1]
  refine callH_then h ?_
  rintro r s (⟨h1, rfl, rfl⟩ | ⟨b, c, rest, h1, h2, h3, rfl, rfl⟩)
  · clear h
    have H := Hid.mk h1
    clear h1
    (repeat' (first | (simp (config := { maxDischargeDepth := 16 }) only [*, vX, Int.reduceLE, Int.reduceLT, Int.reduceGE, Int.reduceGT, Int.reduceBEq, Int.reduceBNe, Int.reduceAdd, Int.reduceSub, Int.reduceMul, Int.reduceNeg, ↓vD, vU, ↓vMd, vMu, VE.ev, VE.evs, retvs, tupOf, grab, vfill, vbsl, eqCells, eqCell, veqs, veqs1, vmnx, AV.isCell, AV.isUndef, Nat.reduceEqDiff, Nat.reduceAdd, Nat.reduceSub, Nat.reduceLeDiff, Nat.reduceLT, reduceIte, reduceCtorEq, Nat.reduceBEq]) | (simp (disch := first | assumption | omega | exact Seg.len _ | exact Vec.len _ | exact Leg.len _ | exact num_len _ | exact rowA_len _ | exact rowA_len | exact rowT_len _ | exact rowT_len | exact Seg.len | exact Vec.len | exact Leg.len | exact num_len | exact AV.slen _ _ | rfl) only [vP]) | ((with_reducible first | refine gsnd ?_ ?_ | refine csnd ?_ ?_ | refine gsd ?_ ?_ | refine csd ?_ ?_ | refine gsn ?_ ?_ | refine csn ?_ ?_ | refine gs ?_ ?_ | refine cs_ ?_ ?_) <;> intro _) | (with_reducible refine objQ_i (fun _ _ => ?_); (repeat (with_reducible refine imp_i (fun _ => ?_))))))
    exact ⟨_, St.le.refl _, .inl ⟨H.out, rfl⟩⟩
  · clear h
    have H := Hid.mk (And.intro h1 (And.intro h2 h3))
    clear h1 h2 h3
    (repeat' (first | (simp (config := { maxDischargeDepth := 16 }) only [*, vX, Int.reduceLE, Int.reduceLT, Int.reduceGE, Int.reduceGT, Int.reduceBEq, Int.reduceBNe, Int.reduceAdd, Int.reduceSub, Int.reduceMul, Int.reduceNeg, ↓vD, vU, ↓vMd, vMu, VE.ev, VE.evs, retvs, tupOf, grab, vfill, vbsl, eqCells, eqCell, veqs, veqs1, vmnx, AV.isCell, AV.isUndef, Nat.reduceEqDiff, Nat.reduceAdd, Nat.reduceSub, Nat.reduceLeDiff, Nat.reduceLT, reduceIte, reduceCtorEq, Nat.reduceBEq]) | (simp (disch := first | assumption | omega | exact Seg.len _ | exact Vec.len _ | exact Leg.len _ | exact num_len _ | exact rowA_len _ | exact rowA_len | exact rowT_len _ | exact rowT_len | exact Seg.len | exact Vec.len | exact Leg.len | exact num_len | exact AV.slen _ _ | rfl) only [vP]) | ((with_reducible first | refine gsnd ?_ ?_ | refine csnd ?_ ?_ | refine gsd ?_ ?_ | refine csd ?_ ?_ | refine gsn ?_ ?_ | refine csn ?_ ?_ | refine gs ?_ ?_ | refine cs_ ?_ ?_) <;> intro _) | (with_reducible refine objQ_i (fun _ _ => ?_); (repeat (with_reducible refine imp_i (fun _ => ?_))))))
    exact ⟨_, St.le.refl _, .inr ⟨b, c, rest, H.out.1, H.out.2.1, H.out.2.2, rfl, rfl⟩⟩
end Go.Proofs.Ytglekfgoadehbaa.V
end
section
set_option linter.unusedSimpArgs false
set_option linter.unusedVariables false
/- slot.low and its iterator. -/
namespace Go.Proofs.Ytglekfgoadehbaa.V
open Go Go.Proofs
set_option maxRecDepth 100000
set_option maxHeartbeats 4000000
theorem low_c (f : List Seg) (w v : Vec) (t : Tok) : VPure Try.prog 42 [.sl (f.map Seg.a) t, w.a, v.a] (.clo 74 [] [.iptr w.a 0, .iptr (.sl (f.map Seg.a) t) 0, .iptr v.a 0]) := fun Z st => by
  have h : VCalls Try.prog Z 42 [.sl (f.map Seg.a) t, w.a, v.a] st (fun r s => ∃ bf bw bv, st.objs bf = none ∧ st.objs bw = none ∧ st.objs bv = none ∧ ¬ bf = bw ∧ ¬ bf = bv ∧ ¬ bw = bv ∧ r = .clo 74 [] [.ptr bw 0, .ptr bf 0, .ptr bv 0] ∧
      s = ((st.ins bf (.cells [.sl (f.map Seg.a) t])).ins bw (.cells [.int .i64 w.m, .int .i64 w.c])).ins bv (.cells [.int .i64 v.m, .int .i64 v.c])) := by
    refine VCalls.of v_slot_low_ok (Nat.le_of_ble_eq_true rfl) ?_
    simp only [v_slot_low, ↓vD, vU, ↓vMd, vMu, VE.ev, VE.evs, retvs, tupOf, grab, vfill, vbsl, eqCells, eqCell, veqs, veqs1, vmnx, AV.isCell, AV.isUndef, Nat.reduceEqDiff, Nat.reduceAdd, Nat.reduceSub, Nat.reduceLeDiff, Nat.reduceLT, reduceIte, reduceCtorEq, Nat.reduceBEq, k_app, k_slc1]
    (repeat' (first | (simp (config := { maxDischargeDepth := 16 }) only [*, Vec.a, vX, Int.reduceLE, Int.reduceLT, Int.reduceGE, Int.reduceGT, Int.reduceBEq, Int.reduceBNe, Int.reduceAdd, Int.reduceSub, Int.reduceMul, Int.reduceNeg, ↓vD, vU, ↓vMd, vMu, VE.ev, VE.evs, retvs, tupOf, grab, vfill, vbsl, eqCells, eqCell, veqs, veqs1, vmnx, AV.isCell, AV.isUndef, Nat.reduceEqDiff, Nat.reduceAdd, Nat.reduceSub, Nat.reduceLeDiff, Nat.reduceLT, reduceIte, reduceCtorEq, Nat.reduceBEq]) | (simp (disch := first | assumption | omega | exact Seg.len _ | exact Vec.len _ | exact Leg.len _ | exact num_len _ | exact rowA_len _ | exact rowA_len | exact rowT_len _ | exact rowT_len | exact Seg.len | exact Vec.len | exact Leg.len | exact num_len | exact AV.slen _ _ | rfl) only [Vec.a, vP]) | ((with_reducible first | refine gsnd ?_ ?_ | refine csnd ?_ ?_ | refine gsd ?_ ?_ | refine csd ?_ ?_ | refine gsn ?_ ?_ | refine csn ?_ ?_ | refine gs ?_ ?_ | refine cs_ ?_ ?_) <;> intro _) | (with_reducible refine objQ_i (fun _ _ => ?_); (repeat (with_reducible refine imp_i (fun _ => ?_))))))
    rename_i bf hf bw hw n1 n2 bv hv n3 n4 n5 n6
    exact ⟨_, St.le.refl _, bf, bw, bv, hf, hw, hv, n2, n4, n6, rfl, rfl⟩
  refine h.wk ?_
  rintro _ _ ⟨bf, bw, bv, hf, hw, hv, n1, n2, n3, rfl, rfl⟩
  have n1' : ¬ bw = bf := fun e => n1 e.symm
  have n2' : ¬ bv = bf := fun e => n2 e.symm
  have n3' : ¬ bv = bw := fun e => n3 e.symm
  (refine ⟨_, st, (Wk.fz _ (b := bw) (x := w.a) (by first | (simp only [St.ins, St.del, *, if_true, if_false, eq_self, not_false_eq_true, ite_true, ite_false]; first | done | rfl) | (simp [St.ins, St.del, *]; done) | (simp [St.ins, St.del, *]; rfl)) (by first | rfl | simp [okEl, AV.cells, AV.isCell]) (by first | exact Nat.zero_lt_succ _ | simp [AV.cells]) _).trans ((Wk.fz _ (b := bf) (x := .sl (f.map Seg.a) t) (by first | (simp only [St.ins, St.del, *, if_true, if_false, eq_self, not_false_eq_true, ite_true, ite_false]; first | done | rfl) | (simp [St.ins, St.del, *]; done) | (simp [St.ins, St.del, *]; rfl)) (by first | rfl | simp [okEl, AV.cells, AV.isCell]) (by first | exact Nat.zero_lt_succ _ | simp [AV.cells]) _).trans ((Wk.fz _ (b := bv) (x := v.a) (by first | (simp only [St.ins, St.del, *, if_true, if_false, eq_self, not_false_eq_true, ite_true, ite_false]; first | done | rfl) | (simp [St.ins, St.del, *]; done) | (simp [St.ins, St.del, *]; rfl)) (by first | rfl | simp [okEl, AV.cells, AV.isCell]) (by first | exact Nat.zero_lt_succ _ | simp [AV.cells]) _).trans (Wk.le (by (refine ⟨fun i o e => ?_, fun _ h => h⟩; revert e; simp only [St.ins, St.del, add_objs, kill_objs]; (repeat' split); all_goals (first | exact id | (intros; contradiction) | (intros; subst_vars; contradiction) | (intros; simp_all; done) | (intros; subst_vars; simp_all; done)))) _))), ?_⟩; simp only [AV.sub, AV.subL, *, if_true, if_false, eq_self, ite_true, ite_false])
  try exact ⟨trivial, trivial⟩
theorem low_it (f : List Seg) (hn : f.length ≤ 1000000000) (w v : Vec) (t : Tok) : VIter Try.prog 74 [] [.iptr w.a 0, .iptr (.sl (f.map Seg.a) t) 0, .iptr v.a 0] ((lowF f w v).map fun b => [b.a]) := by
  intro Y l I E S0 h0 hy
  obtain ⟨L, hL⟩ : ∃ L, lowF f w v = L := ⟨_, rfl⟩
  simp only [hL, List.length_map, List.getElem_map] at hy ⊢
  have hAt := At_v f (by omega) t w.m
  obtain ⟨u0, hu0⟩ : ∃ u, atF f w.m = u := ⟨_, rfl⟩
  rw [hu0] at hAt
  have HL : Hid (L = lowGo w v f w.m u0) := ⟨by rw [← hL, ← hu0]; rfl⟩
  have HY : Hid (∀ k it r, L.drop k = it :: r → ∀ S, I k S → VYield Try.prog Y l [it.a] S (YY I E k)) := ⟨fun k it r h => by
    obtain ⟨hk, rfl, _⟩ := drop_cons h
    exact hy k hk⟩
  have hLE := LE_v v.m v.c
  clear hL hu0 hy
  refine VCalls.of v_slot_low_1_ok (Nat.le_of_ble_eq_true rfl) ?_
  simp only [v_slot_low_1, List.nil_append, List.cons_append, ↓vD, vU, ↓vMd, vMu, VE.ev, VE.evs, retvs, tupOf, grab, vfill, vbsl, eqCells, eqCell, veqs, veqs1, vmnx, AV.isCell, AV.isUndef, Nat.reduceEqDiff, Nat.reduceAdd, Nat.reduceSub, Nat.reduceLeDiff, Nat.reduceLT, reduceIte, reduceCtorEq, Nat.reduceBEq, k_app, k_slc1]
  (repeat' (first | (simp (config := { maxDischargeDepth := 16 }) only [*, num, Vec.a, vX, Int.reduceLE, Int.reduceLT, Int.reduceGE, Int.reduceGT, Int.reduceBEq, Int.reduceBNe, Int.reduceAdd, Int.reduceSub, Int.reduceMul, Int.reduceNeg, ↓vD, vU, ↓vMd, vMu, VE.ev, VE.evs, retvs, tupOf, grab, vfill, vbsl, eqCells, eqCell, veqs, veqs1, vmnx, AV.isCell, AV.isUndef, Nat.reduceEqDiff, Nat.reduceAdd, Nat.reduceSub, Nat.reduceLeDiff, Nat.reduceLT, reduceIte, reduceCtorEq, Nat.reduceBEq]) | (simp (disch := first | assumption | omega | exact Seg.len _ | exact Vec.len _ | exact Leg.len _ | exact num_len _ | exact rowA_len _ | exact rowA_len | exact rowT_len _ | exact rowT_len | exact Seg.len | exact Vec.len | exact Leg.len | exact num_len | exact AV.slen _ _ | rfl) only [num, Vec.a, vP]) | ((with_reducible first | refine gsnd ?_ ?_ | refine csnd ?_ ?_ | refine gsd ?_ ?_ | refine csd ?_ ?_ | refine gsn ?_ ?_ | refine csn ?_ ?_ | refine gs ?_ ?_ | refine cs_ ?_ ?_) <;> intro _) | (with_reducible refine objQ_i (fun _ _ => ?_); (repeat (with_reducible refine imp_i (fun _ => ?_)))) | (with_reducible first | refine callH_use (hAt) ?_ | refine pureQ_use (hAt) ?_)))
  rename_i b6 h6
  refine loopf_of (len := f.length) (by simp only [asgL, dsts, List.cons_append, List.nil_append, List.append_nil]; rfl) (by simp only [noR, Bool.and_true, Bool.and_false]; rfl) (by omega) (fun k fr s => ∃ (j : Nat) (p : Int) (u : Vec) (S : St), s = S.ins b6 (.cells [.int .i64 u.m, .int .i64 u.c])
    ∧ fr.t 17 = .int .i64 k ∧ fr.t 5 = .int .i64 p ∧ I j S ∧ S.objs b6 = none ∧ j ≤ L.length ∧ Hid (L.drop j = lowGo w v (f.drop k) p u)) ?_ ?_ ?_
  · exact ⟨0, w.m, u0, S0, rfl, by simp [↓vD, vU, ↓vMd, vMu, VE.ev, VE.evs, retvs, tupOf, grab, vfill, vbsl, eqCells, eqCell, veqs, veqs1, vmnx, AV.isCell, AV.isUndef, Nat.reduceEqDiff, Nat.reduceAdd, Nat.reduceSub, Nat.reduceLeDiff, Nat.reduceLT, reduceIte, reduceCtorEq, Nat.reduceBEq, k_app, k_slc1], by simp [↓vD, vU, ↓vMd, vMu, VE.ev, VE.evs, retvs, tupOf, grab, vfill, vbsl, eqCells, eqCell, veqs, veqs1, vmnx, AV.isCell, AV.isUndef, Nat.reduceEqDiff, Nat.reduceAdd, Nat.reduceSub, Nat.reduceLeDiff, Nat.reduceLT, reduceIte, reduceCtorEq, Nat.reduceBEq, k_app, k_slc1], h0, h6, by omega, ⟨by rw [HL.out]; rfl⟩⟩
  · rintro k fr s hk hwr hfr hd ⟨j, p, u, S, rfl, h17, h5, hI, hS6, hj, HK⟩
    obtain ⟨x, hx⟩ : ∃ x, f[k] = x := ⟨_, rfl⟩
    have hdr : f.drop k = x :: f.drop (k + 1) := by rw [List.drop_eq_getElem_cons hk, hx]
    have hK := HK.out
    rw [hdr, lowGo] at hK
    by_cases hskip : x.t ≤ w.m ∨ w.c ≤ x.t
    · have HN : Hid (L.drop j = lowGo w v (f.drop (k + 1)) p u) := ⟨by rw [hK, if_pos hskip]⟩
      clear hK hdr HK
      (repeat' (first | (simp (config := { maxDischargeDepth := 16 }) only [*, num, Vec.a, Seg.a, vX, Int.reduceLE, Int.reduceLT, Int.reduceGE, Int.reduceGT, Int.reduceBEq, Int.reduceBNe, Int.reduceAdd, Int.reduceSub, Int.reduceMul, Int.reduceNeg, ↓vD, vU, ↓vMd, vMu, VE.ev, VE.evs, retvs, tupOf, grab, vfill, vbsl, eqCells, eqCell, veqs, veqs1, vmnx, AV.isCell, AV.isUndef, Nat.reduceEqDiff, Nat.reduceAdd, Nat.reduceSub, Nat.reduceLeDiff, Nat.reduceLT, reduceIte, reduceCtorEq, Nat.reduceBEq]) | (simp (disch := first | assumption | omega | exact Seg.len _ | exact Vec.len _ | exact Leg.len _ | exact num_len _ | exact rowA_len _ | exact rowA_len | exact rowT_len _ | exact rowT_len | exact Seg.len | exact Vec.len | exact Leg.len | exact num_len | exact AV.slen _ _ | rfl) only [num, Vec.a, Seg.a, vP]) | ((with_reducible first | refine gsnd ?_ ?_ | refine csnd ?_ ?_ | refine gsd ?_ ?_ | refine csd ?_ ?_ | refine gsn ?_ ?_ | refine csn ?_ ?_ | refine gs ?_ ?_ | refine cs_ ?_ ?_) <;> intro _) | (with_reducible refine objQ_i (fun _ _ => ?_); (repeat (with_reducible refine imp_i (fun _ => ?_)))) | (with_reducible first | refine callH_use (hLE _ _) ?_ | refine pureQ_use (hLE _ _) ?_)))
      all_goals first | exact ⟨_, by (refine ⟨fun i o e => ?_, fun _ h => h⟩; revert e; simp only [St.ins, St.del, add_objs, kill_objs]; (repeat' split); all_goals (first | exact id | (intros; contradiction) | (intros; subst_vars; contradiction) | (intros; simp_all; done) | (intros; subst_vars; simp_all; done))), j, p, u, S, rfl, rfl, hI, hS6, hj, HN⟩ | omega
    · rw [if_neg hskip] at hK
      cases hle : (decide (v.m ≤ u.m) && decide (v.c ≤ u.c)) with
      | true =>
        have HN : Hid (L.drop j = lowGo w v (f.drop (k + 1)) x.t x.v) := ⟨by rw [hK, if_pos (show leW v u = true from hle)]⟩
        clear hK hdr HK
        (repeat' (first | (simp (config := { maxDischargeDepth := 16 }) only [*, num, Vec.a, Seg.a, vX, Int.reduceLE, Int.reduceLT, Int.reduceGE, Int.reduceGT, Int.reduceBEq, Int.reduceBNe, Int.reduceAdd, Int.reduceSub, Int.reduceMul, Int.reduceNeg, ↓vD, vU, ↓vMd, vMu, VE.ev, VE.evs, retvs, tupOf, grab, vfill, vbsl, eqCells, eqCell, veqs, veqs1, vmnx, AV.isCell, AV.isUndef, Nat.reduceEqDiff, Nat.reduceAdd, Nat.reduceSub, Nat.reduceLeDiff, Nat.reduceLT, reduceIte, reduceCtorEq, Nat.reduceBEq]) | (simp (disch := first | assumption | omega | exact Seg.len _ | exact Vec.len _ | exact Leg.len _ | exact num_len _ | exact rowA_len _ | exact rowA_len | exact rowT_len _ | exact rowT_len | exact Seg.len | exact Vec.len | exact Leg.len | exact num_len | exact AV.slen _ _ | rfl) only [num, Vec.a, Seg.a, vP]) | ((with_reducible first | refine gsnd ?_ ?_ | refine csnd ?_ ?_ | refine gsd ?_ ?_ | refine csd ?_ ?_ | refine gsn ?_ ?_ | refine csn ?_ ?_ | refine gs ?_ ?_ | refine cs_ ?_ ?_) <;> intro _) | (with_reducible refine objQ_i (fun _ _ => ?_); (repeat (with_reducible refine imp_i (fun _ => ?_)))) | (with_reducible first | refine callH_use (hLE _ _) ?_ | refine pureQ_use (hLE _ _) ?_)))
        exact ⟨_, by (refine ⟨fun i o e => ?_, fun _ h => h⟩; revert e; simp only [St.ins, St.del, add_objs, kill_objs]; (repeat' split); all_goals (first | exact id | (intros; contradiction) | (intros; subst_vars; contradiction) | (intros; simp_all; done) | (intros; subst_vars; simp_all; done))), j, x.t, x.v, S, rfl, rfl, hI, hS6, hj, HN⟩
      | false =>
        have HN : Hid (L.drop j = ⟨p, x.t⟩ :: lowGo w v (f.drop (k + 1)) x.t x.v) := ⟨by rw [hK, if_neg (by unfold leW; rw [hle]; simp)]⟩
        clear hK hdr HK
        (repeat' (first | (simp (config := { maxDischargeDepth := 16 }) only [*, num, Vec.a, Seg.a, vX, Int.reduceLE, Int.reduceLT, Int.reduceGE, Int.reduceGT, Int.reduceBEq, Int.reduceBNe, Int.reduceAdd, Int.reduceSub, Int.reduceMul, Int.reduceNeg, ↓vD, vU, ↓vMd, vMu, VE.ev, VE.evs, retvs, tupOf, grab, vfill, vbsl, eqCells, eqCell, veqs, veqs1, vmnx, AV.isCell, AV.isUndef, Nat.reduceEqDiff, Nat.reduceAdd, Nat.reduceSub, Nat.reduceLeDiff, Nat.reduceLT, reduceIte, reduceCtorEq, Nat.reduceBEq]) | (simp (disch := first | assumption | omega | exact Seg.len _ | exact Vec.len _ | exact Leg.len _ | exact num_len _ | exact rowA_len _ | exact rowA_len | exact rowT_len _ | exact rowT_len | exact Seg.len | exact Vec.len | exact Leg.len | exact num_len | exact AV.slen _ _ | rfl) only [num, Vec.a, Seg.a, vP]) | ((with_reducible first | refine gsnd ?_ ?_ | refine csnd ?_ ?_ | refine gsd ?_ ?_ | refine csd ?_ ?_ | refine gsn ?_ ?_ | refine csn ?_ ?_ | refine gs ?_ ?_ | refine cs_ ?_ ?_) <;> intro _) | (with_reducible refine objQ_i (fun _ _ => ?_); (repeat (with_reducible refine imp_i (fun _ => ?_)))) | (with_reducible first | refine callH_use (hLE _ _) ?_ | refine pureQ_use (hLE _ _) ?_)))
        rename_i b8 h8 n86 n68
        refine yieldH_then (((HY.out j _ _ HN.out S hI).frame b6 _ hS6).frame b8 _ (by simp only [ins_objs, *, if_false])) rfl ?_
        rintro _ _ ⟨_, ⟨s0, hyy, q6, rfl⟩, q8, rfl⟩
        obtain ⟨hj2, _, hd2⟩ := drop_cons HN.out
        have q8' : s0.objs b8 = none := by simpa only [ins_objs, n86, if_false] using q8
        rcases hyy with ⟨rfl, S', hI', hle'⟩ | ⟨rfl, S', hE', hle'⟩
        · have HN2 : Hid (L.drop (j + 1) = lowGo w v (f.drop (k + 1)) x.t x.v) := ⟨hd2⟩
          clear HN hd2
          (repeat' (first | (simp (config := { maxDischargeDepth := 16 }) only [*, num, Vec.a, Seg.a, vX, Int.reduceLE, Int.reduceLT, Int.reduceGE, Int.reduceGT, Int.reduceBEq, Int.reduceBNe, Int.reduceAdd, Int.reduceSub, Int.reduceMul, Int.reduceNeg, ↓vD, vU, ↓vMd, vMu, VE.ev, VE.evs, retvs, tupOf, grab, vfill, vbsl, eqCells, eqCell, veqs, veqs1, vmnx, AV.isCell, AV.isUndef, Nat.reduceEqDiff, Nat.reduceAdd, Nat.reduceSub, Nat.reduceLeDiff, Nat.reduceLT, reduceIte, reduceCtorEq, Nat.reduceBEq]) | (simp (disch := first | assumption | omega | exact Seg.len _ | exact Vec.len _ | exact Leg.len _ | exact num_len _ | exact rowA_len _ | exact rowA_len | exact rowT_len _ | exact rowT_len | exact Seg.len | exact Vec.len | exact Leg.len | exact num_len | exact AV.slen _ _ | rfl) only [num, Vec.a, Seg.a, vP]) | ((with_reducible first | refine gsnd ?_ ?_ | refine csnd ?_ ?_ | refine gsd ?_ ?_ | refine csd ?_ ?_ | refine gsn ?_ ?_ | refine csn ?_ ?_ | refine gs ?_ ?_ | refine cs_ ?_ ?_) <;> intro _) | (with_reducible refine objQ_i (fun _ _ => ?_); (repeat (with_reducible refine imp_i (fun _ => ?_)))) | (with_reducible first | refine callH_use (hLE _ _) ?_ | refine pureQ_use (hLE _ _) ?_)))
          exact ⟨_, (St.le.ins hle' b6 _).trans (by (refine ⟨fun i o e => ?_, fun _ h => h⟩; revert e; simp only [St.ins, St.del, add_objs, kill_objs]; (repeat' split); all_goals (first | exact id | (intros; contradiction) | (intros; subst_vars; contradiction) | (intros; simp_all; done) | (intros; subst_vars; simp_all; done)))), j + 1, x.t, x.v, S', rfl, rfl, hI', hle'.none q6, by omega, HN2⟩
        · (repeat' (first | (simp (config := { maxDischargeDepth := 16 }) only [*, num, Vec.a, Seg.a, vX, Int.reduceLE, Int.reduceLT, Int.reduceGE, Int.reduceGT, Int.reduceBEq, Int.reduceBNe, Int.reduceAdd, Int.reduceSub, Int.reduceMul, Int.reduceNeg, ↓vD, vU, ↓vMd, vMu, VE.ev, VE.evs, retvs, tupOf, grab, vfill, vbsl, eqCells, eqCell, veqs, veqs1, vmnx, AV.isCell, AV.isUndef, Nat.reduceEqDiff, Nat.reduceAdd, Nat.reduceSub, Nat.reduceLeDiff, Nat.reduceLT, reduceIte, reduceCtorEq, Nat.reduceBEq]) | (simp (disch := first | assumption | omega | exact Seg.len _ | exact Vec.len _ | exact Leg.len _ | exact num_len _ | exact rowA_len _ | exact rowA_len | exact rowT_len _ | exact rowT_len | exact Seg.len | exact Vec.len | exact Leg.len | exact num_len | exact AV.slen _ _ | rfl) only [num, Vec.a, Seg.a, vP]) | ((with_reducible first | refine gsnd ?_ ?_ | refine csnd ?_ ?_ | refine gsd ?_ ?_ | refine csd ?_ ?_ | refine gsn ?_ ?_ | refine csn ?_ ?_ | refine gs ?_ ?_ | refine cs_ ?_ ?_) <;> intro _) | (with_reducible refine objQ_i (fun _ _ => ?_); (repeat (with_reducible refine imp_i (fun _ => ?_)))) | (with_reducible first | refine callH_use (hLE _ _) ?_ | refine pureQ_use (hLE _ _) ?_)))
          exact ⟨_, St.le.refl _, S', .inr hE', hle'.trans (by (refine ⟨fun i o e => ?_, fun _ h => h⟩; revert e; simp only [St.ins, St.del, add_objs, kill_objs]; (repeat' split); all_goals (first | exact id | (intros; contradiction) | (intros; subst_vars; contradiction) | (intros; simp_all; done) | (intros; subst_vars; simp_all; done))))⟩
  · rintro fr s hfr hd ⟨j, p, u, S, rfl, h17, h5, hI, hS6, hj, HK⟩
    rw [List.drop_length, lowGo] at HK
    cases hle : (decide (v.m ≤ u.m) && decide (v.c ≤ u.c)) with
    | true =>
      have HN : Hid (L.drop j = []) := ⟨by rw [HK.out, if_pos (show leW v u = true from hle)]⟩
      have hjl : j = L.length := by have := List.drop_eq_nil_iff.1 HN.out; omega
      subst hjl
      clear HK HN
      (repeat' (first | (simp (config := { maxDischargeDepth := 16 }) only [*, num, Vec.a, Seg.a, vX, Int.reduceLE, Int.reduceLT, Int.reduceGE, Int.reduceGT, Int.reduceBEq, Int.reduceBNe, Int.reduceAdd, Int.reduceSub, Int.reduceMul, Int.reduceNeg, ↓vD, vU, ↓vMd, vMu, VE.ev, VE.evs, retvs, tupOf, grab, vfill, vbsl, eqCells, eqCell, veqs, veqs1, vmnx, AV.isCell, AV.isUndef, Nat.reduceEqDiff, Nat.reduceAdd, Nat.reduceSub, Nat.reduceLeDiff, Nat.reduceLT, reduceIte, reduceCtorEq, Nat.reduceBEq]) | (simp (disch := first | assumption | omega | exact Seg.len _ | exact Vec.len _ | exact Leg.len _ | exact num_len _ | exact rowA_len _ | exact rowA_len | exact rowT_len _ | exact rowT_len | exact Seg.len | exact Vec.len | exact Leg.len | exact num_len | exact AV.slen _ _ | rfl) only [num, Vec.a, Seg.a, vP]) | ((with_reducible first | refine gsnd ?_ ?_ | refine csnd ?_ ?_ | refine gsd ?_ ?_ | refine csd ?_ ?_ | refine gsn ?_ ?_ | refine csn ?_ ?_ | refine gs ?_ ?_ | refine cs_ ?_ ?_) <;> intro _) | (with_reducible refine objQ_i (fun _ _ => ?_); (repeat (with_reducible refine imp_i (fun _ => ?_)))) | (with_reducible first | refine callH_use (hLE _ _) ?_ | refine pureQ_use (hLE _ _) ?_)))
      exact ⟨_, St.le.refl _, S, .inl hI, by (refine ⟨fun i o e => ?_, fun _ h => h⟩; revert e; simp only [St.ins, St.del, add_objs, kill_objs]; (repeat' split); all_goals (first | exact id | (intros; contradiction) | (intros; subst_vars; contradiction) | (intros; simp_all; done) | (intros; subst_vars; simp_all; done)))⟩
    | false =>
      have HN : Hid (L.drop j = [⟨p, w.c⟩]) := ⟨by rw [HK.out, if_neg (by unfold leW; rw [hle]; simp)]⟩
      clear HK
      (repeat' (first | (simp (config := { maxDischargeDepth := 16 }) only [*, num, Vec.a, Seg.a, vX, Int.reduceLE, Int.reduceLT, Int.reduceGE, Int.reduceGT, Int.reduceBEq, Int.reduceBNe, Int.reduceAdd, Int.reduceSub, Int.reduceMul, Int.reduceNeg, ↓vD, vU, ↓vMd, vMu, VE.ev, VE.evs, retvs, tupOf, grab, vfill, vbsl, eqCells, eqCell, veqs, veqs1, vmnx, AV.isCell, AV.isUndef, Nat.reduceEqDiff, Nat.reduceAdd, Nat.reduceSub, Nat.reduceLeDiff, Nat.reduceLT, reduceIte, reduceCtorEq, Nat.reduceBEq]) | (simp (disch := first | assumption | omega | exact Seg.len _ | exact Vec.len _ | exact Leg.len _ | exact num_len _ | exact rowA_len _ | exact rowA_len | exact rowT_len _ | exact rowT_len | exact Seg.len | exact Vec.len | exact Leg.len | exact num_len | exact AV.slen _ _ | rfl) only [num, Vec.a, Seg.a, vP]) | ((with_reducible first | refine gsnd ?_ ?_ | refine csnd ?_ ?_ | refine gsd ?_ ?_ | refine csd ?_ ?_ | refine gsn ?_ ?_ | refine csn ?_ ?_ | refine gs ?_ ?_ | refine cs_ ?_ ?_) <;> intro _) | (with_reducible refine objQ_i (fun _ _ => ?_); (repeat (with_reducible refine imp_i (fun _ => ?_)))) | (with_reducible first | refine callH_use (hLE _ _) ?_ | refine pureQ_use (hLE _ _) ?_)))
      refine yieldH_then ((HY.out j _ _ HN.out S hI).frame b6 _ hS6) rfl ?_
      rintro _ _ ⟨s0, hyy, q6, rfl⟩
      obtain ⟨hj2, _, hd2⟩ := drop_cons HN.out
      have hjl : j + 1 = L.length := by have := List.drop_eq_nil_iff.1 hd2; omega
      rcases hyy with ⟨rfl, S', hI', hle'⟩ | ⟨rfl, S', hE', hle'⟩
      · rw [hjl] at hI'
        (repeat' (first | (simp (config := { maxDischargeDepth := 16 }) only [*, num, Vec.a, Seg.a, vX, Int.reduceLE, Int.reduceLT, Int.reduceGE, Int.reduceGT, Int.reduceBEq, Int.reduceBNe, Int.reduceAdd, Int.reduceSub, Int.reduceMul, Int.reduceNeg, ↓vD, vU, ↓vMd, vMu, VE.ev, VE.evs, retvs, tupOf, grab, vfill, vbsl, eqCells, eqCell, veqs, veqs1, vmnx, AV.isCell, AV.isUndef, Nat.reduceEqDiff, Nat.reduceAdd, Nat.reduceSub, Nat.reduceLeDiff, Nat.reduceLT, reduceIte, reduceCtorEq, Nat.reduceBEq]) | (simp (disch := first | assumption | omega | exact Seg.len _ | exact Vec.len _ | exact Leg.len _ | exact num_len _ | exact rowA_len _ | exact rowA_len | exact rowT_len _ | exact rowT_len | exact Seg.len | exact Vec.len | exact Leg.len | exact num_len | exact AV.slen _ _ | rfl) only [num, Vec.a, Seg.a, vP]) | ((with_reducible first | refine gsnd ?_ ?_ | refine csnd ?_ ?_ | refine gsd ?_ ?_ | refine csd ?_ ?_ | refine gsn ?_ ?_ | refine csn ?_ ?_ | refine gs ?_ ?_ | refine cs_ ?_ ?_) <;> intro _) | (with_reducible refine objQ_i (fun _ _ => ?_); (repeat (with_reducible refine imp_i (fun _ => ?_)))) | (with_reducible first | refine callH_use (hLE _ _) ?_ | refine pureQ_use (hLE _ _) ?_)))
        exact ⟨_, St.le.refl _, S', .inl hI', hle'.trans (by (refine ⟨fun i o e => ?_, fun _ h => h⟩; revert e; simp only [St.ins, St.del, add_objs, kill_objs]; (repeat' split); all_goals (first | exact id | (intros; contradiction) | (intros; subst_vars; contradiction) | (intros; simp_all; done) | (intros; subst_vars; simp_all; done))))⟩
      · (repeat' (first | (simp (config := { maxDischargeDepth := 16 }) only [*, num, Vec.a, Seg.a, vX, Int.reduceLE, Int.reduceLT, Int.reduceGE, Int.reduceGT, Int.reduceBEq, Int.reduceBNe, Int.reduceAdd, Int.reduceSub, Int.reduceMul, Int.reduceNeg, ↓vD, vU, ↓vMd, vMu, VE.ev, VE.evs, retvs, tupOf, grab, vfill, vbsl, eqCells, eqCell, veqs, veqs1, vmnx, AV.isCell, AV.isUndef, Nat.reduceEqDiff, Nat.reduceAdd, Nat.reduceSub, Nat.reduceLeDiff, Nat.reduceLT, reduceIte, reduceCtorEq, Nat.reduceBEq]) | (simp (disch := first | assumption | omega | exact Seg.len _ | exact Vec.len _ | exact Leg.len _ | exact num_len _ | exact rowA_len _ | exact rowA_len | exact rowT_len _ | exact rowT_len | exact Seg.len | exact Vec.len | exact Leg.len | exact num_len | exact AV.slen _ _ | rfl) only [num, Vec.a, Seg.a, vP]) | ((with_reducible first | refine gsnd ?_ ?_ | refine csnd ?_ ?_ | refine gsd ?_ ?_ | refine csd ?_ ?_ | refine gsn ?_ ?_ | refine csn ?_ ?_ | refine gs ?_ ?_ | refine cs_ ?_ ?_) <;> intro _) | (with_reducible refine objQ_i (fun _ _ => ?_); (repeat (with_reducible refine imp_i (fun _ => ?_)))) | (with_reducible first | refine callH_use (hLE _ _) ?_ | refine pureQ_use (hLE _ _) ?_)))
        exact ⟨_, St.le.refl _, S', .inr hE', hle'.trans (by (refine ⟨fun i o e => ?_, fun _ h => h⟩; revert e; simp only [St.ins, St.del, add_objs, kill_objs]; (repeat' split); all_goals (first | exact id | (intros; contradiction) | (intros; subst_vars; contradiction) | (intros; simp_all; done) | (intros; subst_vars; simp_all; done))))⟩
end Go.Proofs.Ytglekfgoadehbaa.V
end
section
set_option linter.unusedSimpArgs false
set_option linter.unusedVariables false
/- slot.without. -/
namespace Go.Proofs.Ytglekfgoadehbaa.V
open Go Go.Proofs
set_option maxRecDepth 100000
set_option maxHeartbeats 4000000
def cutN (x w : Vec) : Nat → List Vec
  | 0 => []
  | 1 => if w.m < min w.c x.m then [⟨w.m, min w.c x.m⟩] else []
  | _ => cutW x w
theorem cutN1 (x w : Vec) : cutN x w 2 = cutN x w 1 ++ (if max w.m x.c < w.c then [⟨max w.m x.c, w.c⟩] else []) := rfl
theorem without_v (l : List Vec) (hl : l.length ≤ 100000000) (t : Tok) (x : Vec) : VPure Try.prog 43 [.sl (l.map Vec.a) t, .agg [.int .i64 x.m, .int .i64 x.c]] (.sl ((withoutF l x).map Vec.a) .no) := by
  refine VPure.tok (fun Z st => ?_)
  refine VCalls.of v_slot_without_ok (Nat.le_of_ble_eq_true rfl) ?_
  simp only [v_slot_without, ↓vD, vU, ↓vMd, vMu, VE.ev, VE.evs, retvs, tupOf, grab, vfill, vbsl, eqCells, eqCell, veqs, veqs1, vmnx, AV.isCell, AV.isUndef, Nat.reduceEqDiff, Nat.reduceAdd, Nat.reduceSub, Nat.reduceLeDiff, Nat.reduceLT, reduceIte, reduceCtorEq, Nat.reduceBEq, k_app, k_slc1]
  (repeat' (first | (simp (config := { maxDischargeDepth := 16 }) only [*, cut0, vX, Int.reduceLE, Int.reduceLT, Int.reduceGE, Int.reduceGT, Int.reduceBEq, Int.reduceBNe, Int.reduceAdd, Int.reduceSub, Int.reduceMul, Int.reduceNeg, ↓vD, vU, ↓vMd, vMu, VE.ev, VE.evs, retvs, tupOf, grab, vfill, vbsl, eqCells, eqCell, veqs, veqs1, vmnx, AV.isCell, AV.isUndef, Nat.reduceEqDiff, Nat.reduceAdd, Nat.reduceSub, Nat.reduceLeDiff, Nat.reduceLT, reduceIte, reduceCtorEq, Nat.reduceBEq]) | (simp (disch := first | assumption | omega | exact Seg.len _ | exact Vec.len _ | exact Leg.len _ | exact num_len _ | exact rowA_len _ | exact rowA_len | exact rowT_len _ | exact rowT_len | exact Seg.len | exact Vec.len | exact Leg.len | exact num_len | exact AV.slen _ _ | rfl) only [cut0, vP]) | ((with_reducible first | refine gsnd ?_ ?_ | refine csnd ?_ ?_ | refine gsd ?_ ?_ | refine csd ?_ ?_ | refine gsn ?_ ?_ | refine csn ?_ ?_ | refine gs ?_ ?_ | refine cs_ ?_ ?_) <;> intro _) | (with_reducible refine objQ_i (fun _ _ => ?_); (repeat (with_reducible refine imp_i (fun _ => ?_)))) | ((try with_reducible refine appK_a ?_); first | (with_reducible refine appD_F (by refine ⟨?_, ?_, ?_, ?_⟩ <;> (first | assumption | omega | exact St.has_add (by assumption) | (simp only [ins_has]; exact St.has_add (by assumption)) | (simp only [ins_has, fresh_ins, kill_ins, add_ins] at *; exact St.has_add (by assumption)) | (simp only [*, ins_has, has_full, St.has_add]; done) | (simp [-List.map_take, -List.map_drop, or_imp, forall_and, Seg.a, Vec.a, Leg.a, num, okEl, cells_agg, cells_int, cells_sl, cells_bool, AV.isCell]; done) | (simp; omega))) (fun _ _ => ?_)) | (with_reducible refine appD_V (by refine ⟨?_, ?_, ?_, ?_, ?_⟩ <;> (first | assumption | omega | exact St.has_add (by assumption) | (simp only [ins_has]; exact St.has_add (by assumption)) | (simp only [ins_has, fresh_ins, kill_ins, add_ins] at *; exact St.has_add (by assumption)) | (simp only [*, ins_has, has_full, St.has_add]; done) | (simp [-List.map_take, -List.map_drop, or_imp, forall_and, Seg.a, Vec.a, Leg.a, num, okEl, cells_agg, cells_int, cells_sl, cells_bool, AV.isCell]; done) | (simp; omega))) (fun _ _ => ?_))) | (with_reducible refine freshQ_i (fun _ _ => ?_))))
  rename_i b3 h3
  refine loopf_of (len := l.length) (by simp only [asgL, dsts, List.cons_append, List.nil_append, List.append_nil]; rfl) (by simp only [noR, Bool.and_true, Bool.and_false]; rfl) (by omega) (fun k fr s => ∃ acc tk S, s = S.ins b3 (.cells [.int .i64 x.m, .int .i64 x.c]) ∧ Ours 2 st S tk ∧ fr.t 14 = .int .i64 k ∧ fr.t 5 = .sl (acc.map Vec.a) tk ∧ Hid (acc = withoutF (l.take k) x) ∧ acc.length ≤ 2 * k) ?_ ?_ ?_
  · exact ⟨[], .full, st, rfl, Ours.full 2 st, by simp [↓vD, vU, ↓vMd, vMu, VE.ev, VE.evs, retvs, tupOf, grab, vfill, vbsl, eqCells, eqCell, veqs, veqs1, vmnx, AV.isCell, AV.isUndef, Nat.reduceEqDiff, Nat.reduceAdd, Nat.reduceSub, Nat.reduceLeDiff, Nat.reduceLT, reduceIte, reduceCtorEq, Nat.reduceBEq, k_app, k_slc1], by simp [↓vD, vU, ↓vMd, vMu, VE.ev, VE.evs, retvs, tupOf, grab, vfill, vbsl, eqCells, eqCell, veqs, veqs1, vmnx, AV.isCell, AV.isUndef, Nat.reduceEqDiff, Nat.reduceAdd, Nat.reduceSub, Nat.reduceLeDiff, Nat.reduceLT, reduceIte, reduceCtorEq, Nat.reduceBEq, k_app, k_slc1], ⟨rfl⟩, by simp⟩
  · rintro k fr s hk hw hfr hd ⟨acc, tk, S, rfl, ho, h14, h5, HA, hal⟩
    have hb3 : S.objs b3 = none := by rw [ho.objs]; exact h3
    obtain ⟨w, hx⟩ : ∃ w, l[k] = w := ⟨_, rfl⟩
    have HX := Hid.mk hx
    (repeat' (first | (simp (config := { maxDischargeDepth := 16 }) only [*, Vec.a, vX, Int.reduceLE, Int.reduceLT, Int.reduceGE, Int.reduceGT, Int.reduceBEq, Int.reduceBNe, Int.reduceAdd, Int.reduceSub, Int.reduceMul, Int.reduceNeg, ↓vD, vU, ↓vMd, vMu, VE.ev, VE.evs, retvs, tupOf, grab, vfill, vbsl, eqCells, eqCell, veqs, veqs1, vmnx, AV.isCell, AV.isUndef, Nat.reduceEqDiff, Nat.reduceAdd, Nat.reduceSub, Nat.reduceLeDiff, Nat.reduceLT, reduceIte, reduceCtorEq, Nat.reduceBEq]) | (simp (disch := first | assumption | omega | exact Seg.len _ | exact Vec.len _ | exact Leg.len _ | exact num_len _ | exact rowA_len _ | exact rowA_len | exact rowT_len _ | exact rowT_len | exact Seg.len | exact Vec.len | exact Leg.len | exact num_len | exact AV.slen _ _ | rfl) only [Vec.a, vP]) | ((with_reducible first | refine gsnd ?_ ?_ | refine csnd ?_ ?_ | refine gsd ?_ ?_ | refine csd ?_ ?_ | refine gsn ?_ ?_ | refine csn ?_ ?_ | refine gs ?_ ?_ | refine cs_ ?_ ?_) <;> intro _) | (with_reducible refine objQ_i (fun _ _ => ?_); (repeat (with_reducible refine imp_i (fun _ => ?_)))) | ((try with_reducible refine appK_a ?_); first | (with_reducible refine appD_F (by refine ⟨?_, ?_, ?_, ?_⟩ <;> (first | assumption | omega | exact St.has_add (by assumption) | (simp only [ins_has]; exact St.has_add (by assumption)) | (simp only [ins_has, fresh_ins, kill_ins, add_ins] at *; exact St.has_add (by assumption)) | (simp only [*, ins_has, has_full, St.has_add]; done) | (simp [-List.map_take, -List.map_drop, or_imp, forall_and, Seg.a, Vec.a, Leg.a, num, okEl, cells_agg, cells_int, cells_sl, cells_bool, AV.isCell]; done) | (simp; omega))) (fun _ _ => ?_)) | (with_reducible refine appD_V (by refine ⟨?_, ?_, ?_, ?_, ?_⟩ <;> (first | assumption | omega | exact St.has_add (by assumption) | (simp only [ins_has]; exact St.has_add (by assumption)) | (simp only [ins_has, fresh_ins, kill_ins, add_ins] at *; exact St.has_add (by assumption)) | (simp only [*, ins_has, has_full, St.has_add]; done) | (simp [-List.map_take, -List.map_drop, or_imp, forall_and, Seg.a, Vec.a, Leg.a, num, okEl, cells_agg, cells_int, cells_sl, cells_bool, AV.isCell]; done) | (simp; omega))) (fun _ _ => ?_))) | (with_reducible refine freshQ_i (fun _ _ => ?_))))
    rename_i b7 h7 n73 n37
    refine loopf_of (len := 2) (by simp only [asgL, dsts, List.cons_append, List.nil_append, List.append_nil]; rfl) (by simp only [noR, Bool.and_true, Bool.and_false]; rfl) (by omega) (fun j fr2 s2 => ∃ acc2 tk2 S2, s2 = (S2.ins b3 (.cells [.int .i64 x.m, .int .i64 x.c])).ins b7 (.cells [.int .i64 w.m, .int .i64 w.c]) ∧ Ours 2 st S2 tk2 ∧ fr2.t 35 = .int .i64 j ∧ fr2.t 5 = .sl (acc2.map Vec.a) tk2 ∧ Hid (acc2 = acc ++ cutN x w j) ∧ acc2.length ≤ 2 * k + j) ?_ ?_ ?_
    · exact ⟨acc, tk, S, rfl, ho, by simp [↓vD, vU, ↓vMd, vMu, VE.ev, VE.evs, retvs, tupOf, grab, vfill, vbsl, eqCells, eqCell, veqs, veqs1, vmnx, AV.isCell, AV.isUndef, Nat.reduceEqDiff, Nat.reduceAdd, Nat.reduceSub, Nat.reduceLeDiff, Nat.reduceLT, reduceIte, reduceCtorEq, Nat.reduceBEq, k_app, k_slc1], by simp [↓vD, vU, ↓vMd, vMu, VE.ev, VE.evs, retvs, tupOf, grab, vfill, vbsl, eqCells, eqCell, veqs, veqs1, vmnx, AV.isCell, AV.isUndef, Nat.reduceEqDiff, Nat.reduceAdd, Nat.reduceSub, Nat.reduceLeDiff, Nat.reduceLT, reduceIte, reduceCtorEq, Nat.reduceBEq, k_app, k_slc1, *], ⟨by simp [cutN]⟩, by omega⟩
    · rintro j fr2 s2 hj hw2 hfr2 hd2 ⟨acc2, tk2, S2, rfl, ho2, h35, h52, HA2, hal2⟩
      have hts := ho2.has
      have hob : S2.objs = S.objs := ho2.objs.trans ho.objs.symm
      have h3' : S2.objs b3 = none := by rw [hob]; exact hb3
      have h7' : S2.objs b7 = none := by rw [hob]; exact h7
      rcases (by omega : j = 0 ∨ j = 1) with rfl | rfl
      · simp only [Int.cast_ofNat_Int, Int.natCast_zero] at hw2 h35
        (repeat' (first | (simp (config := { maxDischargeDepth := 16 }) only [*, Vec.a, grab01, vX, Int.reduceLE, Int.reduceLT, Int.reduceGE, Int.reduceGT, Int.reduceBEq, Int.reduceBNe, Int.reduceAdd, Int.reduceSub, Int.reduceMul, Int.reduceNeg, ↓vD, vU, ↓vMd, vMu, VE.ev, VE.evs, retvs, tupOf, grab, vfill, vbsl, eqCells, eqCell, veqs, veqs1, vmnx, AV.isCell, AV.isUndef, Nat.reduceEqDiff, Nat.reduceAdd, Nat.reduceSub, Nat.reduceLeDiff, Nat.reduceLT, reduceIte, reduceCtorEq, Nat.reduceBEq]) | (simp (disch := first | assumption | omega | exact Seg.len _ | exact Vec.len _ | exact Leg.len _ | exact num_len _ | exact rowA_len _ | exact rowA_len | exact rowT_len _ | exact rowT_len | exact Seg.len | exact Vec.len | exact Leg.len | exact num_len | exact AV.slen _ _ | rfl) only [Vec.a, grab01, vP]) | ((with_reducible first | refine gsnd ?_ ?_ | refine csnd ?_ ?_ | refine gsd ?_ ?_ | refine csd ?_ ?_ | refine gsn ?_ ?_ | refine csn ?_ ?_ | refine gs ?_ ?_ | refine cs_ ?_ ?_) <;> intro _) | (with_reducible refine objQ_i (fun _ _ => ?_); (repeat (with_reducible refine imp_i (fun _ => ?_)))) | ((try with_reducible refine appK_a ?_); first | (with_reducible refine appD_F (by refine ⟨?_, ?_, ?_, ?_⟩ <;> (first | assumption | omega | exact St.has_add (by assumption) | (simp only [ins_has]; exact St.has_add (by assumption)) | (simp only [ins_has, fresh_ins, kill_ins, add_ins] at *; exact St.has_add (by assumption)) | (simp only [*, ins_has, has_full, St.has_add]; done) | (simp [-List.map_take, -List.map_drop, or_imp, forall_and, Seg.a, Vec.a, Leg.a, num, okEl, cells_agg, cells_int, cells_sl, cells_bool, AV.isCell]; done) | (simp; omega))) (fun _ _ => ?_)) | (with_reducible refine appD_V (by refine ⟨?_, ?_, ?_, ?_, ?_⟩ <;> (first | assumption | omega | exact St.has_add (by assumption) | (simp only [ins_has]; exact St.has_add (by assumption)) | (simp only [ins_has, fresh_ins, kill_ins, add_ins] at *; exact St.has_add (by assumption)) | (simp only [*, ins_has, has_full, St.has_add]; done) | (simp [-List.map_take, -List.map_drop, or_imp, forall_and, Seg.a, Vec.a, Leg.a, num, okEl, cells_agg, cells_int, cells_sl, cells_bool, AV.isCell]; done) | (simp; omega))) (fun _ _ => ?_))) | (with_reducible refine freshQ_i (fun _ _ => ?_))))
        · rename_i b9 h9 n1 n2 n3 n4 hc t1 hf
          have ho3 := ho2.next (t' := t1) (by simpa only [kill_ins, fresh_ins] using hf)
          refine ⟨_, by (refine ⟨fun i o e => ?_, fun _ h => h⟩; revert e; simp only [St.ins, St.del, add_objs, kill_objs]; (repeat' split); all_goals (first | exact id | (intros; contradiction) | (intros; subst_vars; contradiction) | (intros; simp_all; done) | (intros; subst_vars; simp_all; done))), acc2 ++ [⟨w.m, min w.c x.m⟩], t1, _, rfl, ho3, by simp [Vec.a], ⟨?_⟩, by simp; omega⟩
          rw [HA2.out]; simp [cutN, hc]
        · rename_i b9 h9 n1 n2 n3 n4 hc
          refine ⟨_, by (refine ⟨fun i o e => ?_, fun _ h => h⟩; revert e; simp only [St.ins, St.del, add_objs, kill_objs]; (repeat' split); all_goals (first | exact id | (intros; contradiction) | (intros; subst_vars; contradiction) | (intros; simp_all; done) | (intros; subst_vars; simp_all; done))), acc2, tk2, _, rfl, ho2, rfl, ⟨?_⟩, by omega⟩
          rw [HA2.out]; simp [cutN, hc]
      · simp only [Int.cast_ofNat_Int, Int.natCast_one] at hw2 h35
        (repeat' (first | (simp (config := { maxDischargeDepth := 16 }) only [*, Vec.a, grab23, vX, Int.reduceLE, Int.reduceLT, Int.reduceGE, Int.reduceGT, Int.reduceBEq, Int.reduceBNe, Int.reduceAdd, Int.reduceSub, Int.reduceMul, Int.reduceNeg, ↓vD, vU, ↓vMd, vMu, VE.ev, VE.evs, retvs, tupOf, grab, vfill, vbsl, eqCells, eqCell, veqs, veqs1, vmnx, AV.isCell, AV.isUndef, Nat.reduceEqDiff, Nat.reduceAdd, Nat.reduceSub, Nat.reduceLeDiff, Nat.reduceLT, reduceIte, reduceCtorEq, Nat.reduceBEq]) | (simp (disch := first | assumption | omega | exact Seg.len _ | exact Vec.len _ | exact Leg.len _ | exact num_len _ | exact rowA_len _ | exact rowA_len | exact rowT_len _ | exact rowT_len | exact Seg.len | exact Vec.len | exact Leg.len | exact num_len | exact AV.slen _ _ | rfl) only [Vec.a, grab23, vP]) | ((with_reducible first | refine gsnd ?_ ?_ | refine csnd ?_ ?_ | refine gsd ?_ ?_ | refine csd ?_ ?_ | refine gsn ?_ ?_ | refine csn ?_ ?_ | refine gs ?_ ?_ | refine cs_ ?_ ?_) <;> intro _) | (with_reducible refine objQ_i (fun _ _ => ?_); (repeat (with_reducible refine imp_i (fun _ => ?_)))) | ((try with_reducible refine appK_a ?_); first | (with_reducible refine appD_F (by refine ⟨?_, ?_, ?_, ?_⟩ <;> (first | assumption | omega | exact St.has_add (by assumption) | (simp only [ins_has]; exact St.has_add (by assumption)) | (simp only [ins_has, fresh_ins, kill_ins, add_ins] at *; exact St.has_add (by assumption)) | (simp only [*, ins_has, has_full, St.has_add]; done) | (simp [-List.map_take, -List.map_drop, or_imp, forall_and, Seg.a, Vec.a, Leg.a, num, okEl, cells_agg, cells_int, cells_sl, cells_bool, AV.isCell]; done) | (simp; omega))) (fun _ _ => ?_)) | (with_reducible refine appD_V (by refine ⟨?_, ?_, ?_, ?_, ?_⟩ <;> (first | assumption | omega | exact St.has_add (by assumption) | (simp only [ins_has]; exact St.has_add (by assumption)) | (simp only [ins_has, fresh_ins, kill_ins, add_ins] at *; exact St.has_add (by assumption)) | (simp only [*, ins_has, has_full, St.has_add]; done) | (simp [-List.map_take, -List.map_drop, or_imp, forall_and, Seg.a, Vec.a, Leg.a, num, okEl, cells_agg, cells_int, cells_sl, cells_bool, AV.isCell]; done) | (simp; omega))) (fun _ _ => ?_))) | (with_reducible refine freshQ_i (fun _ _ => ?_))))
        · rename_i b9 h9 n1 n2 n3 n4 hc t1 hf
          have ho3 := ho2.next (t' := t1) (by simpa only [kill_ins, fresh_ins] using hf)
          refine ⟨_, by (refine ⟨fun i o e => ?_, fun _ h => h⟩; revert e; simp only [St.ins, St.del, add_objs, kill_objs]; (repeat' split); all_goals (first | exact id | (intros; contradiction) | (intros; subst_vars; contradiction) | (intros; simp_all; done) | (intros; subst_vars; simp_all; done))), acc2 ++ [⟨max w.m x.c, w.c⟩], t1, _, rfl, ho3, by simp [Vec.a], ⟨?_⟩, by simp; omega⟩
          rw [HA2.out, cutN1, if_pos hc, List.append_assoc]
        · rename_i b9 h9 n1 n2 n3 n4 hc
          refine ⟨_, by (refine ⟨fun i o e => ?_, fun _ h => h⟩; revert e; simp only [St.ins, St.del, add_objs, kill_objs]; (repeat' split); all_goals (first | exact id | (intros; contradiction) | (intros; subst_vars; contradiction) | (intros; simp_all; done) | (intros; subst_vars; simp_all; done))), acc2, tk2, _, rfl, ho2, rfl, ⟨?_⟩, by omega⟩
          rw [HA2.out, cutN1, if_neg hc, List.append_nil]
    · rintro fr2 s2 hfr2 hd2 ⟨acc2, tk2, S2, rfl, ho2, h35, h52, HA2, hal2⟩
      have hob : S2.objs = S.objs := ho2.objs.trans ho.objs.symm
      have h3' : S2.objs b3 = none := by rw [hob]; exact hb3
      have h7' : S2.objs b7 = none := by rw [hob]; exact h7
      (repeat' (first | (simp (config := { maxDischargeDepth := 16 }) only [*, Vec.a, vX, Int.reduceLE, Int.reduceLT, Int.reduceGE, Int.reduceGT, Int.reduceBEq, Int.reduceBNe, Int.reduceAdd, Int.reduceSub, Int.reduceMul, Int.reduceNeg, ↓vD, vU, ↓vMd, vMu, VE.ev, VE.evs, retvs, tupOf, grab, vfill, vbsl, eqCells, eqCell, veqs, veqs1, vmnx, AV.isCell, AV.isUndef, Nat.reduceEqDiff, Nat.reduceAdd, Nat.reduceSub, Nat.reduceLeDiff, Nat.reduceLT, reduceIte, reduceCtorEq, Nat.reduceBEq]) | (simp (disch := first | assumption | omega | exact Seg.len _ | exact Vec.len _ | exact Leg.len _ | exact num_len _ | exact rowA_len _ | exact rowA_len | exact rowT_len _ | exact rowT_len | exact Seg.len | exact Vec.len | exact Leg.len | exact num_len | exact AV.slen _ _ | rfl) only [Vec.a, vP]) | ((with_reducible first | refine gsnd ?_ ?_ | refine csnd ?_ ?_ | refine gsd ?_ ?_ | refine csd ?_ ?_ | refine gsn ?_ ?_ | refine csn ?_ ?_ | refine gs ?_ ?_ | refine cs_ ?_ ?_) <;> intro _) | (with_reducible refine objQ_i (fun _ _ => ?_); (repeat (with_reducible refine imp_i (fun _ => ?_)))) | ((try with_reducible refine appK_a ?_); first | (with_reducible refine appD_F (by refine ⟨?_, ?_, ?_, ?_⟩ <;> (first | assumption | omega | exact St.has_add (by assumption) | (simp only [ins_has]; exact St.has_add (by assumption)) | (simp only [ins_has, fresh_ins, kill_ins, add_ins] at *; exact St.has_add (by assumption)) | (simp only [*, ins_has, has_full, St.has_add]; done) | (simp [-List.map_take, -List.map_drop, or_imp, forall_and, Seg.a, Vec.a, Leg.a, num, okEl, cells_agg, cells_int, cells_sl, cells_bool, AV.isCell]; done) | (simp; omega))) (fun _ _ => ?_)) | (with_reducible refine appD_V (by refine ⟨?_, ?_, ?_, ?_, ?_⟩ <;> (first | assumption | omega | exact St.has_add (by assumption) | (simp only [ins_has]; exact St.has_add (by assumption)) | (simp only [ins_has, fresh_ins, kill_ins, add_ins] at *; exact St.has_add (by assumption)) | (simp only [*, ins_has, has_full, St.has_add]; done) | (simp [-List.map_take, -List.map_drop, or_imp, forall_and, Seg.a, Vec.a, Leg.a, num, okEl, cells_agg, cells_int, cells_sl, cells_bool, AV.isCell]; done) | (simp; omega))) (fun _ _ => ?_))) | (with_reducible refine freshQ_i (fun _ _ => ?_))))
      refine ⟨_, by (refine ⟨fun i o e => ?_, fun _ h => h⟩; revert e; simp only [St.ins, St.del, add_objs, kill_objs]; (repeat' split); all_goals (first | exact id | (intros; contradiction) | (intros; subst_vars; contradiction) | (intros; simp_all; done) | (intros; subst_vars; simp_all; done))), acc2, tk2, S2, rfl, ho2, rfl, ⟨?_⟩, by omega⟩
      rw [HA2.out, HA.out, withoutF_take hk, HX.out]; rfl
  · rintro fr s hfr hd ⟨acc, tk, S, rfl, ho, h14, h5, HA, hal⟩
    have hb3 : S.objs b3 = none := by rw [ho.objs]; exact h3
    have hun := ho.under
    (repeat' (first | (simp (config := { maxDischargeDepth := 16 }) only [*, vX, Int.reduceLE, Int.reduceLT, Int.reduceGE, Int.reduceGT, Int.reduceBEq, Int.reduceBNe, Int.reduceAdd, Int.reduceSub, Int.reduceMul, Int.reduceNeg, ↓vD, vU, ↓vMd, vMu, VE.ev, VE.evs, retvs, tupOf, grab, vfill, vbsl, eqCells, eqCell, veqs, veqs1, vmnx, AV.isCell, AV.isUndef, Nat.reduceEqDiff, Nat.reduceAdd, Nat.reduceSub, Nat.reduceLeDiff, Nat.reduceLT, reduceIte, reduceCtorEq, Nat.reduceBEq]) | (simp (disch := first | assumption | omega | exact Seg.len _ | exact Vec.len _ | exact Leg.len _ | exact num_len _ | exact rowA_len _ | exact rowA_len | exact rowT_len _ | exact rowT_len | exact Seg.len | exact Vec.len | exact Leg.len | exact num_len | exact AV.slen _ _ | rfl) only [vP]) | ((with_reducible first | refine gsnd ?_ ?_ | refine csnd ?_ ?_ | refine gsd ?_ ?_ | refine csd ?_ ?_ | refine gsn ?_ ?_ | refine csn ?_ ?_ | refine gs ?_ ?_ | refine cs_ ?_ ?_) <;> intro _) | (with_reducible refine objQ_i (fun _ _ => ?_); (repeat (with_reducible refine imp_i (fun _ => ?_)))) | ((try with_reducible refine appK_a ?_); first | (with_reducible refine appD_F (by refine ⟨?_, ?_, ?_, ?_⟩ <;> (first | assumption | omega | exact St.has_add (by assumption) | (simp only [ins_has]; exact St.has_add (by assumption)) | (simp only [ins_has, fresh_ins, kill_ins, add_ins] at *; exact St.has_add (by assumption)) | (simp only [*, ins_has, has_full, St.has_add]; done) | (simp [-List.map_take, -List.map_drop, or_imp, forall_and, Seg.a, Vec.a, Leg.a, num, okEl, cells_agg, cells_int, cells_sl, cells_bool, AV.isCell]; done) | (simp; omega))) (fun _ _ => ?_)) | (with_reducible refine appD_V (by refine ⟨?_, ?_, ?_, ?_, ?_⟩ <;> (first | assumption | omega | exact St.has_add (by assumption) | (simp only [ins_has]; exact St.has_add (by assumption)) | (simp only [ins_has, fresh_ins, kill_ins, add_ins] at *; exact St.has_add (by assumption)) | (simp only [*, ins_has, has_full, St.has_add]; done) | (simp [-List.map_take, -List.map_drop, or_imp, forall_and, Seg.a, Vec.a, Leg.a, num, okEl, cells_agg, cells_int, cells_sl, cells_bool, AV.isCell]; done) | (simp; omega))) (fun _ _ => ?_))) | (with_reducible refine freshQ_i (fun _ _ => ?_))))
    refine ⟨st, hun.trans (by (refine ⟨fun i o e => ?_, fun _ h => h⟩; revert e; simp only [St.ins, St.del, add_objs, kill_objs]; (repeat' split); all_goals (first | exact id | (intros; contradiction) | (intros; subst_vars; contradiction) | (intros; simp_all; done) | (intros; subst_vars; simp_all; done)))), tk, ?_, rfl⟩
    rw [HA.out, List.take_length]
end Go.Proofs.Ytglekfgoadehbaa.V
end
section
set_option linter.unusedSimpArgs false
set_option linter.unusedVariables false
/- slot.Begins. -/
namespace Go.Proofs.Ytglekfgoadehbaa.V
open Go Go.Proofs
set_option maxRecDepth 100000
set_option maxHeartbeats 4000000
theorem Begins_c (f : List Seg) (hf : f.length ≤ 1000000) (w : Vec) (h1 : -9223372036854775808 ≤ w.m) (h2 : w.c ≤ 9223372036854775807) (l : List Leg) (hl : l.length ≤ 1000000000) (t t' : Tok) :
    VPure Try.prog 23 [.sl (f.map Seg.a) t, .agg [.int .i64 w.m, .int .i64 w.c], .sl (l.map Leg.a) t'] (.tup [.sl ((beginsF f w l).1.map Vec.a) .no, num (beginsF f w l).2]) := by
  refine VPure.tokT (fun Z st => ?_)
  have hck := check_v f (by omega) w h1 h2 l hl t t'
  obtain ⟨q, hq⟩ : ∃ q, checkF f w l = q := ⟨_, rfl⟩
  rw [hq] at hck
  unfold num at hck
  by_cases hok : q.2 = 0
  case neg =>
    have HB : Hid (beginsF f w l = ([], q.2)) := ⟨by unfold beginsF; rw [hq, if_pos (.inl hok)]⟩
    clear hq
    refine VCalls.of v_slot_Begins_ok (Nat.le_of_ble_eq_true rfl) ?_
    simp only [v_slot_Begins, ↓vD, vU, ↓vMd, vMu, VE.ev, VE.evs, retvs, tupOf, grab, vfill, vbsl, eqCells, eqCell, veqs, veqs1, vmnx, AV.isCell, AV.isUndef, Nat.reduceEqDiff, Nat.reduceAdd, Nat.reduceSub, Nat.reduceLeDiff, Nat.reduceLT, reduceIte, reduceCtorEq, Nat.reduceBEq, k_app, k_slc1]
    (repeat' (first | (simp (config := { maxDischargeDepth := 16 }) only [*, vX, Int.reduceLE, Int.reduceLT, Int.reduceGE, Int.reduceGT, Int.reduceBEq, Int.reduceBNe, Int.reduceAdd, Int.reduceSub, Int.reduceMul, Int.reduceNeg, ↓vD, vU, ↓vMd, vMu, VE.ev, VE.evs, retvs, tupOf, grab, vfill, vbsl, eqCells, eqCell, veqs, veqs1, vmnx, AV.isCell, AV.isUndef, Nat.reduceEqDiff, Nat.reduceAdd, Nat.reduceSub, Nat.reduceLeDiff, Nat.reduceLT, reduceIte, reduceCtorEq, Nat.reduceBEq]) | (simp (disch := first | assumption | omega | exact Seg.len _ | exact Vec.len _ | exact Leg.len _ | exact num_len _ | exact rowA_len _ | exact rowA_len | exact rowT_len _ | exact rowT_len | exact Seg.len | exact Vec.len | exact Leg.len | exact num_len | exact AV.slen _ _ | rfl) only [vP]) | ((with_reducible first | refine gsnd ?_ ?_ | refine csnd ?_ ?_ | refine gsd ?_ ?_ | refine csd ?_ ?_ | refine gsn ?_ ?_ | refine csn ?_ ?_ | refine gs ?_ ?_ | refine cs_ ?_ ?_) <;> intro _) | (with_reducible refine objQ_i (fun _ _ => ?_); (repeat (with_reducible refine imp_i (fun _ => ?_)))) | (with_reducible first | refine callH_use (hck) ?_ | refine pureQ_use (hck) ?_)))
    exact ⟨st, by (refine ⟨fun i o e => ?_, fun _ h => h⟩; revert e; simp only [St.ins, St.del, add_objs, kill_objs]; (repeat' split); all_goals (first | exact id | (intros; contradiction) | (intros; subst_vars; contradiction) | (intros; simp_all; done) | (intros; subst_vars; simp_all; done))), .full, by rw [HB.out]; rfl, rfl⟩
  have hO := check_ok.1 (by rw [hq]; exact hok)
  have hs := check_1 hO
  rw [hq] at hs
  obtain ⟨n, hn⟩ : ∃ n, sumD l = n := ⟨_, rfl⟩
  rw [hn] at hs
  have HBn : Hid (beginsF f w l = if w.c - w.m < n then ([], 0) else (legsF f w l 0 [⟨w.m, w.c - n + 1⟩], 0)) := ⟨by unfold beginsF; rw [hq, hs]; simp⟩
  subst hs
  simp only at hck
  have hn0 : 0 ≤ n := by
    rw [← hn]
    have := hO.pos
    clear hO hq hn HBn hck
    induction l with
    | nil => simp [sumD]
    | cons x r ih => have h3 := ih (by simp at hl; omega) (fun y hy => this y (by simp [hy])); have h4 := this x (by simp); simp only [sumD]; omega
  have hw := hO.win
  have hsp := hO.span
  have hfr := hO.from_
  have hto := hO.to_
  simp only [farF, Bool.or_eq_false_iff, decide_eq_false_iff_not] at hfr hto
  obtain ⟨hf1, hf2⟩ := hfr
  obtain ⟨ht1, ht2⟩ := hto
  have hl16 := hO.len.2
  have HO := Hid.mk hO
  clear hq hn hok hO
  by_cases hbig : w.c - w.m < n
  · have hb2 : IntKind.i64.wrap (w.c - w.m) = w.c - w.m := wrap_i64 _ (by omega) (by omega)
    refine VCalls.of v_slot_Begins_ok (Nat.le_of_ble_eq_true rfl) ?_
    simp only [v_slot_Begins, ↓vD, vU, ↓vMd, vMu, VE.ev, VE.evs, retvs, tupOf, grab, vfill, vbsl, eqCells, eqCell, veqs, veqs1, vmnx, AV.isCell, AV.isUndef, Nat.reduceEqDiff, Nat.reduceAdd, Nat.reduceSub, Nat.reduceLeDiff, Nat.reduceLT, reduceIte, reduceCtorEq, Nat.reduceBEq, k_app, k_slc1]
    (repeat' (first | (simp (config := { maxDischargeDepth := 16 }) only [*, vX, Int.reduceLE, Int.reduceLT, Int.reduceGE, Int.reduceGT, Int.reduceBEq, Int.reduceBNe, Int.reduceAdd, Int.reduceSub, Int.reduceMul, Int.reduceNeg, ↓vD, vU, ↓vMd, vMu, VE.ev, VE.evs, retvs, tupOf, grab, vfill, vbsl, eqCells, eqCell, veqs, veqs1, vmnx, AV.isCell, AV.isUndef, Nat.reduceEqDiff, Nat.reduceAdd, Nat.reduceSub, Nat.reduceLeDiff, Nat.reduceLT, reduceIte, reduceCtorEq, Nat.reduceBEq]) | (simp (disch := first | assumption | omega | exact Seg.len _ | exact Vec.len _ | exact Leg.len _ | exact num_len _ | exact rowA_len _ | exact rowA_len | exact rowT_len _ | exact rowT_len | exact Seg.len | exact Vec.len | exact Leg.len | exact num_len | exact AV.slen _ _ | rfl) only [vP]) | ((with_reducible first | refine gsnd ?_ ?_ | refine csnd ?_ ?_ | refine gsd ?_ ?_ | refine csd ?_ ?_ | refine gsn ?_ ?_ | refine csn ?_ ?_ | refine gs ?_ ?_ | refine cs_ ?_ ?_) <;> intro _) | (with_reducible refine objQ_i (fun _ _ => ?_); (repeat (with_reducible refine imp_i (fun _ => ?_)))) | (with_reducible first | refine callH_use (hck) ?_ | refine pureQ_use (hck) ?_)))
    exact ⟨st, by (refine ⟨fun i o e => ?_, fun _ h => h⟩; revert e; simp only [St.ins, St.del, add_objs, kill_objs]; (repeat' split); all_goals (first | exact id | (intros; contradiction) | (intros; subst_vars; contradiction) | (intros; simp_all; done) | (intros; subst_vars; simp_all; done))), .full, by rw [HBn.out, if_pos hbig]; rfl, rfl⟩
  have HB : Hid (beginsF f w l = (legsF f w l 0 [⟨w.m, w.c - n + 1⟩], 0)) := ⟨by rw [HBn.out, if_neg hbig]⟩
  clear HBn
  have hb2 : IntKind.i64.wrap (w.c - w.m) = w.c - w.m := wrap_i64 _ (by omega) (by omega)
  refine VCalls.of v_slot_Begins_ok (Nat.le_of_ble_eq_true rfl) ?_
  simp only [v_slot_Begins, ↓vD, vU, ↓vMd, vMu, VE.ev, VE.evs, retvs, tupOf, grab, vfill, vbsl, eqCells, eqCell, veqs, veqs1, vmnx, AV.isCell, AV.isUndef, Nat.reduceEqDiff, Nat.reduceAdd, Nat.reduceSub, Nat.reduceLeDiff, Nat.reduceLT, reduceIte, reduceCtorEq, Nat.reduceBEq, k_app, k_slc1]
  (repeat' (first | (simp (config := { maxDischargeDepth := 16 }) only [*, vX, Int.reduceLE, Int.reduceLT, Int.reduceGE, Int.reduceGT, Int.reduceBEq, Int.reduceBNe, Int.reduceAdd, Int.reduceSub, Int.reduceMul, Int.reduceNeg, ↓vD, vU, ↓vMd, vMu, VE.ev, VE.evs, retvs, tupOf, grab, vfill, vbsl, eqCells, eqCell, veqs, veqs1, vmnx, AV.isCell, AV.isUndef, Nat.reduceEqDiff, Nat.reduceAdd, Nat.reduceSub, Nat.reduceLeDiff, Nat.reduceLT, reduceIte, reduceCtorEq, Nat.reduceBEq]) | (simp (disch := first | assumption | omega | exact Seg.len _ | exact Vec.len _ | exact Leg.len _ | exact num_len _ | exact rowA_len _ | exact rowA_len | exact rowT_len _ | exact rowT_len | exact Seg.len | exact Vec.len | exact Leg.len | exact num_len | exact AV.slen _ _ | rfl) only [vP]) | ((with_reducible first | refine gsnd ?_ ?_ | refine csnd ?_ ?_ | refine gsd ?_ ?_ | refine csd ?_ ?_ | refine gsn ?_ ?_ | refine csn ?_ ?_ | refine gs ?_ ?_ | refine cs_ ?_ ?_) <;> intro _) | (with_reducible refine objQ_i (fun _ _ => ?_); (repeat (with_reducible refine imp_i (fun _ => ?_)))) | (with_reducible first | refine callH_use (hck) ?_ | refine pureQ_use (hck) ?_)))
  rename_i b4 h4 b10 h10 n1 n2 b11 h11 n3 n4 n5 n6
  refine loopf_of (len := l.length) (by simp only [asgL, dsts, List.cons_append, List.nil_append, List.append_nil]; rfl) (by simp only [noR, Bool.and_true, Bool.and_false]; rfl) (by omega) (fun k fr s => ∃ (ds : List Nat) (out : List Vec) (a : Int) (tk : Tok) (S : St), s = ((S.ins b4 (.cells [.int .i64 w.m, .int .i64 w.c])).ins b10 (.cells [.sl (out.map Vec.a) tk])).ins b11 (.cells [.int .i64 a]) ∧ fr.t 45 = .int .i64 k ∧ fr.d = ds ∧ DS st S ds ∧ (S.objs b4 = none ∧ S.objs b10 = none ∧ S.objs b11 = none) ∧
    Rows w.m (w.c + 1) out ∧ 0 ≤ a ∧ a ≤ 4096 * k ∧ Hid (legsF f w (l.drop k) a out = legsF f w l 0 [⟨w.m, w.c - n + 1⟩])) ?_ ?_ ?_
  · exact ⟨[], [⟨w.m, w.c - n + 1⟩], 0, .full, st, rfl, by simp [↓vD, vU, ↓vMd, vMu, VE.ev, VE.evs, retvs, tupOf, grab, vfill, vbsl, eqCells, eqCell, veqs, veqs1, vmnx, AV.isCell, AV.isUndef, Nat.reduceEqDiff, Nat.reduceAdd, Nat.reduceSub, Nat.reduceLeDiff, Nat.reduceLT, reduceIte, reduceCtorEq, Nat.reduceBEq, k_app, k_slc1], by simp [↓vD, vU, ↓vMd, vMu, VE.ev, VE.evs, retvs, tupOf, grab, vfill, vbsl, eqCells, eqCell, veqs, veqs1, vmnx, AV.isCell, AV.isUndef, Nat.reduceEqDiff, Nat.reduceAdd, Nat.reduceSub, Nat.reduceLeDiff, Nat.reduceLT, reduceIte, reduceCtorEq, Nat.reduceBEq, k_app, k_slc1, initFr], DS.nil (St.le.refl _), ⟨h4, h10, h11⟩, ⟨by simp, by simp only; omega, by simp only; omega, trivial⟩, by omega, by omega, ⟨rfl⟩⟩
  · rintro k fr s hk hwr hfr hd ⟨ds, out, a, tk, S, rfl, h45, hdd, hDS, ⟨h4', h10', h11'⟩, hR, ha0, ha1, HK⟩
    obtain ⟨x, hx⟩ : ∃ x, l[k] = x := ⟨_, rfl⟩
    have hxd := HO.out.pos x (by rw [← hx]; exact List.getElem_mem _)
    have hlow := low_c f w x.v t
    have HN : Hid (legsF f w (l.drop (k + 1)) (a + x.d) (cutsF x.d a (lowF f w x.v) out) = legsF f w l 0 [⟨w.m, w.c - n + 1⟩]) := ⟨by rw [← HK.out, List.drop_eq_getElem_cons hk, hx, legsF]⟩
    have hin := fun b (hb : b ∈ lowF f w x.v) => And.intro (lowF_ne HO.out.may HO.out.win x.v b hb) (lowF_in (f := f) (v := x.v) (w := w) (by omega) b hb)
    have HIn := Hid.mk hin
    clear HK hin
    unfold Vec.a at hlow
    (repeat' (first | (simp (config := { maxDischargeDepth := 16 }) only [*, Leg.a, Vec.a, vX, Int.reduceLE, Int.reduceLT, Int.reduceGE, Int.reduceGT, Int.reduceBEq, Int.reduceBNe, Int.reduceAdd, Int.reduceSub, Int.reduceMul, Int.reduceNeg, ↓vD, vU, ↓vMd, vMu, VE.ev, VE.evs, retvs, tupOf, grab, vfill, vbsl, eqCells, eqCell, veqs, veqs1, vmnx, AV.isCell, AV.isUndef, Nat.reduceEqDiff, Nat.reduceAdd, Nat.reduceSub, Nat.reduceLeDiff, Nat.reduceLT, reduceIte, reduceCtorEq, Nat.reduceBEq]) | (simp (disch := first | assumption | omega | exact Seg.len _ | exact Vec.len _ | exact Leg.len _ | exact num_len _ | exact rowA_len _ | exact rowA_len | exact rowT_len _ | exact rowT_len | exact Seg.len | exact Vec.len | exact Leg.len | exact num_len | exact AV.slen _ _ | rfl) only [Leg.a, Vec.a, vP]) | ((with_reducible first | refine gsnd ?_ ?_ | refine csnd ?_ ?_ | refine gsd ?_ ?_ | refine csd ?_ ?_ | refine gsn ?_ ?_ | refine csn ?_ ?_ | refine gs ?_ ?_ | refine cs_ ?_ ?_) <;> intro _) | (with_reducible refine objQ_i (fun _ _ => ?_); (repeat (with_reducible refine imp_i (fun _ => ?_)))) | (with_reducible first | refine callH_use (hlow) ?_ | refine pureQ_use (hlow) ?_)))
    rename_i b13 h13 m1 m2 m3 m4 m5 m6
    have HL : Hid (lowF f w x.v = lowF f w x.v) := ⟨rfl⟩
    refine rng_iter (gf := 74) (fs := []) (by simp only [↓vD, vU, ↓vMd, vMu, VE.ev, VE.evs, retvs, tupOf, grab, vfill, vbsl, eqCells, eqCell, veqs, veqs1, vmnx, AV.isCell, AV.isUndef, Nat.reduceEqDiff, Nat.reduceAdd, Nat.reduceSub, Nat.reduceLeDiff, Nat.reduceLT, reduceIte, reduceCtorEq, Nat.reduceBEq, k_app, k_slc1]; rfl) (low_it f (by omega) w x.v t) (by simp) (fun j T => ∃ out2 tk2, T = (((S.ins b4 (.cells [.int .i64 w.m, .int .i64 w.c])).ins b10 (.cells [.sl (out2.map Vec.a) tk2])).ins b11 (.cells [.int .i64 a])).ins b13 (.cells [.int .i64 x.d, .int .i64 x.v.m, .int .i64 x.v.c]) ∧ Rows w.m (w.c + 1) out2 ∧ Hid (cutsF x.d a ((lowF f w x.v).drop j) out2 = cutsF x.d a (lowF f w x.v) out)) (fun _ _ => False) ⟨out, tk, rfl, hR, ⟨by simp⟩⟩ ?_ ?_ (by intro _ _ _ _ _ _ _ h; exact h.elim)
    · rintro Y l0 D r hzy nlD nDl j hj T ⟨out2, tk2, rfl, hR2, HK2⟩ hTl hTD
      simp only [ins_objs, ite_some_none] at hTl hTD
      obtain ⟨q1, q2, q3, q4, q5, q6, q7, q8, hSl⟩ := hTl
      obtain ⟨r1, r2, r3, r4, r5, r6, r7, r8, hSD⟩ := hTD
      rw [List.length_map] at hj
      simp only [List.getElem_map]
      have HC := HK2.out
      rw [List.drop_eq_getElem_cons hj, cutsF] at HC
      have hb := HIn.out _ (List.getElem_mem hj)
      obtain ⟨bad, hbad⟩ : ∃ b, (lowF f w x.v)[j] = b := ⟨_, rfl⟩
      rw [hbad] at HC hb ⊢
      have HC2 := Hid.mk HC
      have hlen := hR2.len (by omega)
      have hwo := without_v out2 (by omega) tk2 (shiftW x.d a bad)
      have hR3 := hR2.without (x := shiftW x.d a bad) (by simp only [shiftW]; omega)
      simp only [shiftW] at hwo
      clear HC HK2 hbad
      (repeat' (first | (simp (config := { maxDischargeDepth := 16 }) only [*, argsFr1_t, argsFr1_d, Vec.a, Leg.a, rq_normal, vX, Int.reduceLE, Int.reduceLT, Int.reduceGE, Int.reduceGT, Int.reduceBEq, Int.reduceBNe, Int.reduceAdd, Int.reduceSub, Int.reduceMul, Int.reduceNeg, ↓vD, vU, ↓vMd, vMu, VE.ev, VE.evs, retvs, tupOf, grab, vfill, vbsl, eqCells, eqCell, veqs, veqs1, vmnx, AV.isCell, AV.isUndef, Nat.reduceEqDiff, Nat.reduceAdd, Nat.reduceSub, Nat.reduceLeDiff, Nat.reduceLT, reduceIte, reduceCtorEq, Nat.reduceBEq]) | (simp (disch := first | assumption | omega | exact Seg.len _ | exact Vec.len _ | exact Leg.len _ | exact num_len _ | exact rowA_len _ | exact rowA_len | exact rowT_len _ | exact rowT_len | exact Seg.len | exact Vec.len | exact Leg.len | exact num_len | exact AV.slen _ _ | rfl) only [argsFr1_t, argsFr1_d, Vec.a, Leg.a, rq_normal, vP]) | ((with_reducible first | refine gsnd ?_ ?_ | refine csnd ?_ ?_ | refine gsd ?_ ?_ | refine csd ?_ ?_ | refine gsn ?_ ?_ | refine csn ?_ ?_ | refine gs ?_ ?_ | refine cs_ ?_ ?_) <;> intro _) | (with_reducible refine objQ_i (fun _ _ => ?_); (repeat (with_reducible refine imp_i (fun _ => ?_)))) | (with_reducible first | refine callH_use (hwo) ?_ | refine pureQ_use (hwo) ?_)))
      exact ⟨_, ⟨⟨_, .no, rfl, hR3, HC2⟩, (by simp only [ins_objs, kill_objs, add_objs, *, if_false, if_true, not_false_eq_true, ite_some_none, and_self, and_true, true_and])⟩, (by simp only [ins_objs, kill_objs, add_objs, *, if_false, if_true, not_false_eq_true, ite_some_none, and_self, and_true, true_and]), by (refine leX.start ?_ rfl; (repeat (refine leX.in_ (by simp only [*, ins_objs, if_true, if_false]; first | done | rfl) ?_)); (repeat (first | refine leX.new (by first | assumption | (rw [hob]; assumption)) ?_ | refine leX.old (by (simp only [List.mem_cons, true_or, or_true, eq_self]; done)) ?_)); exact leX.refl _ _)⟩
    · rintro D l0 o T nlD nDl ⟨out2, tk2, rfl, hR2, HK2⟩ hTl hTD
      simp only [ins_objs, ite_some_none] at hTl hTD
      obtain ⟨q1, q2, q3, q4, q5, q6, q7, q8, hSl⟩ := hTl
      obtain ⟨r1, r2, r3, r4, r5, r6, r7, r8, hSD⟩ := hTD
      rw [List.length_map, List.drop_length, cutsF] at HK2
      have HC := HK2.out
      subst HC
      (repeat' (first | (simp (config := { maxDischargeDepth := 16 }) only [*, Leg.a, Vec.a, vX, Int.reduceLE, Int.reduceLT, Int.reduceGE, Int.reduceGT, Int.reduceBEq, Int.reduceBNe, Int.reduceAdd, Int.reduceSub, Int.reduceMul, Int.reduceNeg, ↓vD, vU, ↓vMd, vMu, VE.ev, VE.evs, retvs, tupOf, grab, vfill, vbsl, eqCells, eqCell, veqs, veqs1, vmnx, AV.isCell, AV.isUndef, Nat.reduceEqDiff, Nat.reduceAdd, Nat.reduceSub, Nat.reduceLeDiff, Nat.reduceLT, reduceIte, reduceCtorEq, Nat.reduceBEq]) | (simp (disch := first | assumption | omega | exact Seg.len _ | exact Vec.len _ | exact Leg.len _ | exact num_len _ | exact rowA_len _ | exact rowA_len | exact rowT_len _ | exact rowT_len | exact Seg.len | exact Vec.len | exact Leg.len | exact num_len | exact AV.slen _ _ | rfl) only [Leg.a, Vec.a, vP]) | ((with_reducible first | refine gsnd ?_ ?_ | refine csnd ?_ ?_ | refine gsd ?_ ?_ | refine csd ?_ ?_ | refine gsn ?_ ?_ | refine csn ?_ ?_ | refine gs ?_ ?_ | refine cs_ ?_ ?_) <;> intro _) | (with_reducible refine objQ_i (fun _ _ => ?_); (repeat (with_reducible refine imp_i (fun _ => ?_))))))
      exact ⟨_, by (refine leX.start ?_ rfl; (repeat (refine leX.in_ (by simp only [*, ins_objs, if_true, if_false]; first | done | rfl) ?_)); (repeat (first | refine leX.new (by first | assumption | (rw [hob]; assumption)) ?_ | refine leX.old (by (simp only [List.mem_cons, true_or, or_true, eq_self]; done)) ?_)); exact leX.refl _ _), D :: ds, _, a + x.d, tk2, S.ins D dobj, rfl, rfl, hDS.cons hSD, ⟨(by simp only [ins_objs, kill_objs, add_objs, *, if_false, if_true, not_false_eq_true, ite_some_none, and_self, and_true, true_and]), (by simp only [ins_objs, kill_objs, add_objs, *, if_false, if_true, not_false_eq_true, ite_some_none, and_self, and_true, true_and]), (by simp only [ins_objs, kill_objs, add_objs, *, if_false, if_true, not_false_eq_true, ite_some_none, and_self, and_true, true_and])⟩, hR2, by omega, by omega, HN⟩
  · rintro fr s hfr hd ⟨ds, out, a, tk, S, rfl, h45, hdd, hDS, ⟨h4', h10', h11'⟩, hR, ha0, ha1, HK⟩
    rw [List.drop_length, legsF] at HK
    have hle : S.le (((S.ins b4 (.cells [.int .i64 w.m, .int .i64 w.c])).ins b10 (.cells [.sl (out.map Vec.a) tk])).ins b11 (.cells [.int .i64 a])) := by (refine ⟨fun i o e => ?_, fun _ h => h⟩; revert e; simp only [St.ins, St.del, add_objs, kill_objs]; (repeat' split); all_goals (first | exact id | (intros; contradiction) | (intros; subst_vars; contradiction) | (intros; simp_all; done) | (intros; subst_vars; simp_all; done)))
    (repeat' (first | (simp (config := { maxDischargeDepth := 16 }) only [*, vX, Int.reduceLE, Int.reduceLT, Int.reduceGE, Int.reduceGT, Int.reduceBEq, Int.reduceBNe, Int.reduceAdd, Int.reduceSub, Int.reduceMul, Int.reduceNeg, ↓vD, vU, ↓vMd, vMu, VE.ev, VE.evs, retvs, tupOf, grab, vfill, vbsl, eqCells, eqCell, veqs, veqs1, vmnx, AV.isCell, AV.isUndef, Nat.reduceEqDiff, Nat.reduceAdd, Nat.reduceSub, Nat.reduceLeDiff, Nat.reduceLT, reduceIte, reduceCtorEq, Nat.reduceBEq]) | (simp (disch := first | assumption | omega | exact Seg.len _ | exact Vec.len _ | exact Leg.len _ | exact num_len _ | exact rowA_len _ | exact rowA_len | exact rowT_len _ | exact rowT_len | exact Seg.len | exact Vec.len | exact Leg.len | exact num_len | exact AV.slen _ _ | rfl) only [vP]) | ((with_reducible first | refine gsnd ?_ ?_ | refine csnd ?_ ?_ | refine gsd ?_ ?_ | refine csd ?_ ?_ | refine gsn ?_ ?_ | refine csn ?_ ?_ | refine gs ?_ ?_ | refine cs_ ?_ ?_) <;> intro _) | (with_reducible refine objQ_i (fun _ _ => ?_); (repeat (with_reducible refine imp_i (fun _ => ?_))))))
    · rename_i hc
      have ho : out = [] := by
        have : out.length = 0 := by first | omega | simpa using hc
        exact List.length_eq_zero_iff.1 this
      refine ⟨_, st, rfl, hDS.fin hle, hDS.2.1, hDS.1.trans hle, .full, ?_, rfl⟩
      rw [HB.out, ← HK.out, ho]; rfl
    · refine ⟨_, st, rfl, hDS.fin hle, hDS.2.1, hDS.1.trans hle, tk, ?_, rfl⟩
      rw [HB.out, ← HK.out]; rfl
end Go.Proofs.Ytglekfgoadehbaa.V
end
section
set_option linter.unusedSimpArgs false
set_option linter.unusedVariables false
/- Bounds of begins, in plain Lean. -/
namespace Go.Proofs.Ytglekfgoadehbaa.V
open Go Go.Proofs
theorem beginsF_len (f : List Seg) (w : Vec) (l : List Leg) : (beginsF f w l).1.length ≤ 5000 ∧ ∀ x ∈ (beginsF f w l).1, -9000000000000000000 ≤ x.c ∧ x.c ≤ 9000000000000000000 := by
  by_cases h : (checkF f w l).2 = 0
  · have hO := check_ok.1 h
    have hr := (begins_is hO).1
    have h1 := hO.win
    have h2 := hO.span
    have h3 := hO.from_
    have h4 := hO.to_
    simp only [farF, Bool.or_eq_false_iff, decide_eq_false_iff_not] at h3 h4
    refine ⟨?_, ?_⟩
    · have := hr.rows.len (by omega)
      omega
    · have key : ∀ (l : List Vec) (lo : Int), w.m ≤ lo → RowsG lo (w.c + 1) l → ∀ x ∈ l, w.m ≤ x.c ∧ x.c ≤ w.c + 1 := by
        intro l
        induction l with
        | nil => intro _ _ _ x hx; cases hx
        | cons y r ih =>
          rintro lo hlo ⟨a, b, c, d⟩ x hx
          rcases List.mem_cons.1 hx with rfl | hx
          · omega
          · exact ih _ (by omega) d x hx
      intro x hx
      have := key _ _ (Int.le_refl _) hr x hx
      omega
  · have : (beginsF f w l).1 = [] := by unfold beginsF; rw [if_pos (.inl h)]
    rw [this]; simp
theorem begins_bd (f : List Seg) (w : Vec) (l : List Leg) : ∀ x ∈ (beginsF f w l).1, (0 ≤ x.c - x.m ∧ x.c - x.m ≤ 5000) ∧ -2000000000000 ≤ x.m ∧ x.c ≤ 2000000000000 := by
  by_cases h : (checkF f w l).2 = 0
  · have hO := check_ok.1 h
    have hr := (begins_is hO).1
    have h1 := hO.win
    have h2 := hO.span
    have h3 := hO.from_
    have h4 := hO.to_
    simp only [farF, Bool.or_eq_false_iff, decide_eq_false_iff_not] at h3 h4
    have key : ∀ (l : List Vec) (lo : Int), w.m ≤ lo → RowsG lo (w.c + 1) l → ∀ x ∈ l, w.m ≤ x.m ∧ x.m < x.c ∧ x.c ≤ w.c + 1 := by
      intro l
      induction l with
      | nil => intro _ _ _ x hx; cases hx
      | cons y r ih =>
        rintro lo hlo ⟨a, b, c, d⟩ x hx
        rcases List.mem_cons.1 hx with rfl | hx
        · omega
        · exact ih _ (by omega) d x hx
    intro x hx
    have := key _ _ (Int.le_refl _) hr x hx
    omega
  · have : (beginsF f w l).1 = [] := by unfold beginsF; rw [if_pos (.inl h)]
    rw [this]; simp
end Go.Proofs.Ytglekfgoadehbaa.V
end
section
set_option linter.unusedSimpArgs false
set_option linter.unusedVariables false
/- The compiled functions of the package cmp (printed by Print.lean of this work). -/
namespace Go.Proofs.Ytglekfgoadehbaa.V
open Go Go.Proofs
def v_cmp_Compare_int64 : VFn := ⟨.seq (.reg [⟨some 4, .mov (.c (.int .i64 0)), none, [], []⟩])
(.seq (.reg [⟨some 7, .mov (.t 0), none, [], []⟩,
  ⟨some 8, .call 69 [(.t 7)], none, [0], []⟩,
  ⟨some 5, .mov (.t 8), none, [1, 1, 0, 1], []⟩])
(.seq (.reg [⟨some 9, .mov (.t 1), none, [], []⟩,
  ⟨some 10, .call 69 [(.t 9)], none, [0], []⟩,
  ⟨some 6, .mov (.t 10), none, [1, 1, 0, 1], []⟩])
(.seq (.seq (.reg [⟨some 11, .mov (.t 5), none, [], []⟩])
(.cond (.t 11)
  (.seq (.seq (.reg [⟨some 12, .mov (.t 6), none, [], []⟩])
  (.cond (.t 12)
    (.seq (.reg [⟨some 4, .mov (.c (.int .i64 0)), none, [], []⟩])
    (.ret))
    (.skip)))
  (.seq (.reg [⟨some 4, .mov (.c (.int .i64 (-1))), none, [], []⟩])
  (.ret)))
  (.skip)))
(.seq (.seq (.reg [⟨some 13, .mov (.t 6), none, [], []⟩])
(.cond (.t 13)
  (.seq (.reg [⟨some 4, .mov (.c (.int .i64 1)), none, [], []⟩])
  (.ret))
  (.skip)))
(.seq (.seq (.reg [⟨some 14, .mov (.t 0), none, [], []⟩,
  ⟨some 15, .mov (.t 1), none, [], []⟩,
  ⟨some 16, .bin .lss (.t 14) (.t 15), none, [0, 1], []⟩])
(.cond (.t 16)
  (.seq (.reg [⟨some 4, .mov (.c (.int .i64 (-1))), none, [], []⟩])
  (.ret))
  (.skip)))
(.seq (.seq (.reg [⟨some 17, .mov (.t 0), none, [], []⟩,
  ⟨some 18, .mov (.t 1), none, [], []⟩,
  ⟨some 19, .bin .gtr (.t 17) (.t 18), none, [0, 1], []⟩])
(.cond (.t 19)
  (.seq (.reg [⟨some 4, .mov (.c (.int .i64 1)), none, [], []⟩])
  (.ret))
  (.skip)))
(.seq (.reg [⟨some 4, .mov (.c (.int .i64 0)), none, [], []⟩])
(.ret)))))))),
[.t 4], 20⟩
theorem v_cmp_Compare_int64_ok : compF Try.prog 40 = some v_cmp_Compare_int64 := by kernel_rfl
def v_cmp_isNaN_int64 : VFn := ⟨.seq (.reg [⟨some 2, .mov (.c (.bool false)), none, [], []⟩])
(.seq (.reg [⟨some 3, .mov (.t 0), none, [], []⟩,
  ⟨some 4, .mov (.t 0), none, [], []⟩,
  ⟨some 5, .bin .neq (.t 3) (.t 4), none, [0, 1], []⟩,
  ⟨some 2, .mov (.t 5), none, [2, 0, 1, 2], []⟩])
(.ret)),
[.t 2], 6⟩
theorem v_cmp_isNaN_int64_ok : compF Try.prog 69 = some v_cmp_isNaN_int64 := by kernel_rfl
end Go.Proofs.Ytglekfgoadehbaa.V
end
