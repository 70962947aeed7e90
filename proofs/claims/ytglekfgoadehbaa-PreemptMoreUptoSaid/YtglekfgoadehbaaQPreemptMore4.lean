/- Texts of this claim, joined: Cpre1, Cpre2, Cpre3, VXliveryref25, Cpre4, Cpre5, VXliverylaw25, Cpre6, VOpn, O25, Ppre2, VYt, Cpre7, O25u. -/
import Derived.Test.YtglekfgoadehbaaQPreemptMore3
import Derived.Test.YtglekfgoadehbaaQPreemptMore2
import Derived.Test.YtglekfgoadehbaaProg
import Derived.OpenShut
import Derived.Test.YtglekfgoadehbaaRows
set_option linter.unusedSimpArgs false
set_option linter.unusedVariables false
section
/- slices.Clone, IndexFunc, DeleteFunc at Job; preempt's keys, by, running. -/
namespace Go.Proofs.Ytglekfgoadehbaa.V
open Go Go.Proofs Go.Proofs.Ytglekfgoadehbaa.SP
set_option maxRecDepth 100000
set_option maxHeartbeats 4000000
theorem CloneJob_v {Z : Im} (xs : List Job) (hn : xs.length ≤ 1000000000) (t : Tok) (st : St) : VCalls Try.prog Z 57 [.sl (xs.map Job.a) t] st
    (fun r s => (xs = [] ∧ ∃ t', r = .sl [] t' ∧ s = st) ∨ ∃ b c rest, xs ≠ [] ∧ st.objs b = none ∧ xs.length ≤ c ∧ rest.length = (c - xs.length) * 5 ∧ r = .osl b xs.length c ∧ s = ob st b Job.a rest xs) := by
  refine VCalls.of v_slices_Clone_api_Job_api_Job_ok (Nat.le_of_ble_eq_true rfl) ?_
  simp only [v_slices_Clone_api_Job_api_Job, ↓vD, vU, ↓vMd, vMu, VE.ev, VE.evs, retvs, tupOf, grab, vfill, vbsl, eqCells, eqCell, veqs, veqs1, vmnx, AV.isCell, AV.isUndef, Nat.reduceEqDiff, Nat.reduceAdd, Nat.reduceSub, Nat.reduceLeDiff, Nat.reduceLT, reduceIte, reduceCtorEq, Nat.reduceBEq, k_app, k_slc1]
  cases xs with
  | nil =>
    (repeat' (first | (simp (config := { maxDischargeDepth := 16 }) only [*, ↓vD, vU, ↓vMd, vMu, VE.ev, VE.evs, retvs, tupOf, grab, vfill, vbsl, eqCells, eqCell, veqs, veqs1, vmnx, AV.isCell, AV.isUndef, Nat.reduceEqDiff, Nat.reduceAdd, Nat.reduceSub, Nat.reduceLeDiff, Nat.reduceLT, reduceIte, reduceCtorEq, Nat.reduceBEq, k_app, k_slc1]) | (with_reducible refine gs (fun _ => ?_) (fun _ => ?_)) | (with_reducible refine cs_ (fun _ => ?_) (fun _ => ?_)) | (with_reducible refine objQ_i (fun _ _ => ?_); (repeat (with_reducible refine imp_i (fun _ => ?_)))) | (with_reducible refine appK_a ?_) | (with_reducible refine freshQ_i (fun _ _ => ?_)) | (with_reducible refine nilQ_i (fun _ _ => ?_))))
    · exact ⟨st, St.le.refl _, .inl ⟨_, rfl, rfl⟩⟩
    · refine ⟨by simp, by simp, by simp, ?_⟩
      (repeat' (first | (simp (config := { maxDischargeDepth := 16 }) only [*, ↓vD, vU, ↓vMd, vMu, VE.ev, VE.evs, retvs, tupOf, grab, vfill, vbsl, eqCells, eqCell, veqs, veqs1, vmnx, AV.isCell, AV.isUndef, Nat.reduceEqDiff, Nat.reduceAdd, Nat.reduceSub, Nat.reduceLeDiff, Nat.reduceLT, reduceIte, reduceCtorEq, Nat.reduceBEq, k_app, k_slc1]) | (with_reducible refine gs (fun _ => ?_) (fun _ => ?_)) | (with_reducible refine cs_ (fun _ => ?_) (fun _ => ?_)) | (with_reducible refine objQ_i (fun _ _ => ?_); (repeat (with_reducible refine imp_i (fun _ => ?_)))) | (with_reducible refine appK_a ?_) | (with_reducible refine freshQ_i (fun _ _ => ?_)) | (with_reducible refine nilQ_i (fun _ _ => ?_))))
      exact ⟨st, le_add (St.le.refl _) _, .inl ⟨_, rfl, rfl⟩⟩
  | cons x xs =>
    (repeat' (first | (simp (config := { maxDischargeDepth := 16 }) only [*, ↓vD, vU, ↓vMd, vMu, VE.ev, VE.evs, retvs, tupOf, grab, vfill, vbsl, eqCells, eqCell, veqs, veqs1, vmnx, AV.isCell, AV.isUndef, Nat.reduceEqDiff, Nat.reduceAdd, Nat.reduceSub, Nat.reduceLeDiff, Nat.reduceLT, reduceIte, reduceCtorEq, Nat.reduceBEq, k_app, k_slc1]) | (with_reducible refine gs (fun _ => ?_) (fun _ => ?_)) | (with_reducible refine cs_ (fun _ => ?_) (fun _ => ?_)) | (with_reducible refine objQ_i (fun _ _ => ?_); (repeat (with_reducible refine imp_i (fun _ => ?_)))) | (with_reducible refine freshQ_i (fun _ _ => ?_)) | (with_reducible refine nilQ_i (fun _ _ => ?_))))
    refine appK_new (by simp) (by simp) ?_ (by simp at hn ⊢; omega) (by simp at hn ⊢; omega) ?_
    · intro y hy
      rcases List.mem_cons.1 hy with rfl | hy
      · rfl
      · obtain ⟨z, _, rfl⟩ := List.mem_map.1 hy; rfl
    · intro b c rest hb hc hr
      (repeat' (first | (simp (config := { maxDischargeDepth := 16 }) only [*, ↓vD, vU, ↓vMd, vMu, VE.ev, VE.evs, retvs, tupOf, grab, vfill, vbsl, eqCells, eqCell, veqs, veqs1, vmnx, AV.isCell, AV.isUndef, Nat.reduceEqDiff, Nat.reduceAdd, Nat.reduceSub, Nat.reduceLeDiff, Nat.reduceLT, reduceIte, reduceCtorEq, Nat.reduceBEq, k_app, k_slc1]) | (with_reducible refine gs (fun _ => ?_) (fun _ => ?_)) | (with_reducible refine cs_ (fun _ => ?_) (fun _ => ?_)) | (with_reducible refine objQ_i (fun _ _ => ?_); (repeat (with_reducible refine imp_i (fun _ => ?_)))) | (with_reducible refine appK_a ?_) | (with_reducible refine freshQ_i (fun _ _ => ?_)) | (with_reducible refine nilQ_i (fun _ _ => ?_))))
      exact ⟨_, St.le.refl _, .inr ⟨b, c, rest, hb, by simpa using hc, by simpa using hr, rfl, by simp [ob, fl]⟩⟩
theorem IndexJob_v {Z : Im} {f : Nat} {fs cs : List AV} (xs : List Job) (hn : xs.length ≤ 1000000000) (g : Job → Bool) (hg : ∀ x : Job, VPure Try.prog f (fs ++ [x.a] ++ cs) (.bool (g x))) (st : St) (b n c : Nat) (hl : n = xs.length) (rest : List AV) :
    VCalls Try.prog Z 87 [.osl b n c, .clo f fs cs] (ob st b Job.a rest xs) (fun r s => r = .int .i64 (idxI (fun k => g (xs.getD k default)) xs.length) ∧ s = ob st b Job.a rest xs) := by
  have hld := fun i h => SoJob.ld Job.a Job.ok Job.ag st b rest xs i h
  have hlen : ∀ (b n c : Nat), vlen (.osl b n c) = some (.int .i64 n) := fun _ _ _ => rfl
  subst hl
  refine VCalls.of v_slices_IndexFunc_api_Job_api_Job_ok (Nat.le_of_ble_eq_true rfl) ?_
  simp only [v_slices_IndexFunc_api_Job_api_Job, ↓vD, vU, ↓vMd, vMu, VE.ev, VE.evs, retvs, tupOf, grab, vfill, vbsl, eqCells, eqCell, veqs, veqs1, vmnx, AV.isCell, AV.isUndef, Nat.reduceEqDiff, Nat.reduceAdd, Nat.reduceSub, Nat.reduceLeDiff, Nat.reduceLT, reduceIte, reduceCtorEq, Nat.reduceBEq, k_app, k_slc1]
  obtain ⟨S, hS⟩ : ∃ S, ob st b Job.a rest xs = S := ⟨_, rfl⟩
  rw [hS] at hld ⊢
  (repeat' (first | (simp (config := { maxDischargeDepth := 16 }) only [*, vX, Int.reduceLE, Int.reduceLT, Int.reduceGE, Int.reduceGT, Int.reduceBEq, Int.reduceBNe, Int.reduceAdd, Int.reduceSub, Int.reduceMul, Int.reduceNeg, ↓vD, vU, ↓vMd, vMu, VE.ev, VE.evs, retvs, tupOf, grab, vfill, vbsl, eqCells, eqCell, veqs, veqs1, vmnx, AV.isCell, AV.isUndef, Nat.reduceEqDiff, Nat.reduceAdd, Nat.reduceSub, Nat.reduceLeDiff, Nat.reduceLT, reduceIte, reduceCtorEq, Nat.reduceBEq]) | (simp (disch := first | assumption | omega | exact Seg.len _ | exact Vec.len _ | exact Leg.len _ | exact num_len _ | exact rowA_len _ | exact rowA_len | exact rowT_len _ | exact rowT_len | exact Seg.len | exact Vec.len | exact Leg.len | exact num_len | exact AV.slen _ _ | rfl) only [vP]) | (with_reducible (first | refine gsnd (fun _ => ?_) (fun _ => ?_) | refine csnd (fun _ => ?_) (fun _ => ?_) | refine gsd (fun _ => ?_) (fun _ => ?_) | refine csd (fun _ => ?_) (fun _ => ?_) | refine gsn (fun _ => ?_) (fun _ => ?_) | refine csn (fun _ => ?_) (fun _ => ?_))) | (with_reducible refine gs (fun _ => ?_) (fun _ => ?_)) | (with_reducible refine cs_ (fun _ => ?_) (fun _ => ?_)) | (with_reducible refine objQ_i (fun _ _ => ?_); (repeat (with_reducible refine imp_i (fun _ => ?_)))) | ((try with_reducible refine appK_a ?_); first | (with_reducible refine appD_F (by refine ⟨?_, ?_, ?_, ?_⟩ <;> (first | assumption | omega | exact St.has_add (by assumption) | (simp only [ins_has]; exact St.has_add (by assumption)) | (simp only [ins_has, fresh_ins, kill_ins, add_ins] at *; exact St.has_add (by assumption)) | (simp only [*, ins_has, has_full, St.has_add]; done) | (simp [-List.map_take, -List.map_drop, or_imp, forall_and, Seg.a, Vec.a, Leg.a, num, okEl, cells_agg, cells_int, cells_sl, cells_bool, AV.isCell]; done) | (simp; omega))) (fun _ _ => ?_)) | (with_reducible refine appD_V (by refine ⟨?_, ?_, ?_, ?_, ?_⟩ <;> (first | assumption | omega | exact St.has_add (by assumption) | (simp only [ins_has]; exact St.has_add (by assumption)) | (simp only [ins_has, fresh_ins, kill_ins, add_ins] at *; exact St.has_add (by assumption)) | (simp only [*, ins_has, has_full, St.has_add]; done) | (simp [-List.map_take, -List.map_drop, or_imp, forall_and, Seg.a, Vec.a, Leg.a, num, okEl, cells_agg, cells_int, cells_sl, cells_bool, AV.isCell]; done) | (simp; omega))) (fun _ _ => ?_))) | (with_reducible refine freshQ_i (fun _ _ => ?_)) | (with_reducible refine nilQ_i (fun _ _ => ?_))))
  refine loopf_of (len := xs.length) (by simp only [asgL, dsts, List.cons_append, List.nil_append, List.append_nil]; rfl) (by simp only [noR, Bool.and_true, Bool.and_false]; rfl) (by omega) (fun k fr s => s = S ∧ fr.t 8 = .int .i64 k ∧ ∀ j, j < k → g (xs.getD j default) = false) ?_ ?_ ?_
  · simp [↓vD, vU, ↓vMd, vMu, VE.ev, VE.evs, retvs, tupOf, grab, vfill, vbsl, eqCells, eqCell, veqs, veqs1, vmnx, AV.isCell, AV.isUndef, Nat.reduceEqDiff, Nat.reduceAdd, Nat.reduceSub, Nat.reduceLeDiff, Nat.reduceLT, reduceIte, reduceCtorEq, Nat.reduceBEq, k_app, k_slc1]
  · rintro k fr s hk hw hf hd ⟨rfl, h8, hno⟩
    have HN := Hid.mk hno
    have hi := ob_iad b xs.length c .i64 k 5 hk
    have hL := hld k hk
    obtain ⟨x, hx⟩ : ∃ x, xs.getD k default = x := ⟨_, rfl⟩
    rw [hx] at hL
    have hgx := hg x
    obtain ⟨y, hy⟩ : ∃ y, g x = y := ⟨_, rfl⟩
    rw [hy] at hgx
    have HX := Hid.mk hx
    have HY := Hid.mk hy
    clear hno hld hS hx hy
    cases y
    · (repeat' (first | (simp (config := { maxDischargeDepth := 16 }) only [*, vX, Int.reduceLE, Int.reduceLT, Int.reduceGE, Int.reduceGT, Int.reduceBEq, Int.reduceBNe, Int.reduceAdd, Int.reduceSub, Int.reduceMul, Int.reduceNeg, ↓vD, vU, ↓vMd, vMu, VE.ev, VE.evs, retvs, tupOf, grab, vfill, vbsl, eqCells, eqCell, veqs, veqs1, vmnx, AV.isCell, AV.isUndef, Nat.reduceEqDiff, Nat.reduceAdd, Nat.reduceSub, Nat.reduceLeDiff, Nat.reduceLT, reduceIte, reduceCtorEq, Nat.reduceBEq]) | (simp (disch := first | assumption | omega | exact Seg.len _ | exact Vec.len _ | exact Leg.len _ | exact num_len _ | exact rowA_len _ | exact rowA_len | exact rowT_len _ | exact rowT_len | exact Seg.len | exact Vec.len | exact Leg.len | exact num_len | exact AV.slen _ _ | rfl) only [vP]) | (with_reducible (first | refine gsnd (fun _ => ?_) (fun _ => ?_) | refine csnd (fun _ => ?_) (fun _ => ?_) | refine gsd (fun _ => ?_) (fun _ => ?_) | refine csd (fun _ => ?_) (fun _ => ?_) | refine gsn (fun _ => ?_) (fun _ => ?_) | refine csn (fun _ => ?_) (fun _ => ?_))) | (with_reducible refine gs (fun _ => ?_) (fun _ => ?_)) | (with_reducible refine cs_ (fun _ => ?_) (fun _ => ?_)) | (with_reducible refine objQ_i (fun _ _ => ?_); (repeat (with_reducible refine imp_i (fun _ => ?_)))) | ((try with_reducible refine appK_a ?_); first | (with_reducible refine appD_F (by refine ⟨?_, ?_, ?_, ?_⟩ <;> (first | assumption | omega | exact St.has_add (by assumption) | (simp only [ins_has]; exact St.has_add (by assumption)) | (simp only [ins_has, fresh_ins, kill_ins, add_ins] at *; exact St.has_add (by assumption)) | (simp only [*, ins_has, has_full, St.has_add]; done) | (simp [-List.map_take, -List.map_drop, or_imp, forall_and, Seg.a, Vec.a, Leg.a, num, okEl, cells_agg, cells_int, cells_sl, cells_bool, AV.isCell]; done) | (simp; omega))) (fun _ _ => ?_)) | (with_reducible refine appD_V (by refine ⟨?_, ?_, ?_, ?_, ?_⟩ <;> (first | assumption | omega | exact St.has_add (by assumption) | (simp only [ins_has]; exact St.has_add (by assumption)) | (simp only [ins_has, fresh_ins, kill_ins, add_ins] at *; exact St.has_add (by assumption)) | (simp only [*, ins_has, has_full, St.has_add]; done) | (simp [-List.map_take, -List.map_drop, or_imp, forall_and, Seg.a, Vec.a, Leg.a, num, okEl, cells_agg, cells_int, cells_sl, cells_bool, AV.isCell]; done) | (simp; omega))) (fun _ _ => ?_))) | (with_reducible refine freshQ_i (fun _ _ => ?_)) | (with_reducible refine nilQ_i (fun _ _ => ?_)) | (with_reducible first | refine callH_use (hgx) ?_ | refine pureQ_use (hgx) ?_)))
      intro j hj
      rcases Nat.lt_succ_iff_lt_or_eq.1 hj with hj | rfl
      · exact HN.out j hj
      · rw [HX.out]; exact HY.out
    · (repeat' (first | (simp (config := { maxDischargeDepth := 16 }) only [*, vX, Int.reduceLE, Int.reduceLT, Int.reduceGE, Int.reduceGT, Int.reduceBEq, Int.reduceBNe, Int.reduceAdd, Int.reduceSub, Int.reduceMul, Int.reduceNeg, ↓vD, vU, ↓vMd, vMu, VE.ev, VE.evs, retvs, tupOf, grab, vfill, vbsl, eqCells, eqCell, veqs, veqs1, vmnx, AV.isCell, AV.isUndef, Nat.reduceEqDiff, Nat.reduceAdd, Nat.reduceSub, Nat.reduceLeDiff, Nat.reduceLT, reduceIte, reduceCtorEq, Nat.reduceBEq]) | (simp (disch := first | assumption | omega | exact Seg.len _ | exact Vec.len _ | exact Leg.len _ | exact num_len _ | exact rowA_len _ | exact rowA_len | exact rowT_len _ | exact rowT_len | exact Seg.len | exact Vec.len | exact Leg.len | exact num_len | exact AV.slen _ _ | rfl) only [vP]) | (with_reducible (first | refine gsnd (fun _ => ?_) (fun _ => ?_) | refine csnd (fun _ => ?_) (fun _ => ?_) | refine gsd (fun _ => ?_) (fun _ => ?_) | refine csd (fun _ => ?_) (fun _ => ?_) | refine gsn (fun _ => ?_) (fun _ => ?_) | refine csn (fun _ => ?_) (fun _ => ?_))) | (with_reducible refine gs (fun _ => ?_) (fun _ => ?_)) | (with_reducible refine cs_ (fun _ => ?_) (fun _ => ?_)) | (with_reducible refine objQ_i (fun _ _ => ?_); (repeat (with_reducible refine imp_i (fun _ => ?_)))) | ((try with_reducible refine appK_a ?_); first | (with_reducible refine appD_F (by refine ⟨?_, ?_, ?_, ?_⟩ <;> (first | assumption | omega | exact St.has_add (by assumption) | (simp only [ins_has]; exact St.has_add (by assumption)) | (simp only [ins_has, fresh_ins, kill_ins, add_ins] at *; exact St.has_add (by assumption)) | (simp only [*, ins_has, has_full, St.has_add]; done) | (simp [-List.map_take, -List.map_drop, or_imp, forall_and, Seg.a, Vec.a, Leg.a, num, okEl, cells_agg, cells_int, cells_sl, cells_bool, AV.isCell]; done) | (simp; omega))) (fun _ _ => ?_)) | (with_reducible refine appD_V (by refine ⟨?_, ?_, ?_, ?_, ?_⟩ <;> (first | assumption | omega | exact St.has_add (by assumption) | (simp only [ins_has]; exact St.has_add (by assumption)) | (simp only [ins_has, fresh_ins, kill_ins, add_ins] at *; exact St.has_add (by assumption)) | (simp only [*, ins_has, has_full, St.has_add]; done) | (simp [-List.map_take, -List.map_drop, or_imp, forall_and, Seg.a, Vec.a, Leg.a, num, okEl, cells_agg, cells_int, cells_sl, cells_bool, AV.isCell]; done) | (simp; omega))) (fun _ _ => ?_))) | (with_reducible refine freshQ_i (fun _ _ => ?_)) | (with_reducible refine nilQ_i (fun _ _ => ?_)) | (with_reducible first | refine callH_use (hgx) ?_ | refine pureQ_use (hgx) ?_)))
      exact (idx_hit (g := fun k => g (xs.getD k default)) hk HN.out (by simp only [HX.out]; exact HY.out)).symm
  · rintro fr s hf hd ⟨rfl, h8, hno⟩
    have HN := Hid.mk hno
    clear hno hld hS
    (repeat' (first | (simp (config := { maxDischargeDepth := 16 }) only [*, vX, Int.reduceLE, Int.reduceLT, Int.reduceGE, Int.reduceGT, Int.reduceBEq, Int.reduceBNe, Int.reduceAdd, Int.reduceSub, Int.reduceMul, Int.reduceNeg, ↓vD, vU, ↓vMd, vMu, VE.ev, VE.evs, retvs, tupOf, grab, vfill, vbsl, eqCells, eqCell, veqs, veqs1, vmnx, AV.isCell, AV.isUndef, Nat.reduceEqDiff, Nat.reduceAdd, Nat.reduceSub, Nat.reduceLeDiff, Nat.reduceLT, reduceIte, reduceCtorEq, Nat.reduceBEq]) | (simp (disch := first | assumption | omega | exact Seg.len _ | exact Vec.len _ | exact Leg.len _ | exact num_len _ | exact rowA_len _ | exact rowA_len | exact rowT_len _ | exact rowT_len | exact Seg.len | exact Vec.len | exact Leg.len | exact num_len | exact AV.slen _ _ | rfl) only [vP]) | (with_reducible (first | refine gsnd (fun _ => ?_) (fun _ => ?_) | refine csnd (fun _ => ?_) (fun _ => ?_) | refine gsd (fun _ => ?_) (fun _ => ?_) | refine csd (fun _ => ?_) (fun _ => ?_) | refine gsn (fun _ => ?_) (fun _ => ?_) | refine csn (fun _ => ?_) (fun _ => ?_))) | (with_reducible refine gs (fun _ => ?_) (fun _ => ?_)) | (with_reducible refine cs_ (fun _ => ?_) (fun _ => ?_)) | (with_reducible refine objQ_i (fun _ _ => ?_); (repeat (with_reducible refine imp_i (fun _ => ?_)))) | ((try with_reducible refine appK_a ?_); first | (with_reducible refine appD_F (by refine ⟨?_, ?_, ?_, ?_⟩ <;> (first | assumption | omega | exact St.has_add (by assumption) | (simp only [ins_has]; exact St.has_add (by assumption)) | (simp only [ins_has, fresh_ins, kill_ins, add_ins] at *; exact St.has_add (by assumption)) | (simp only [*, ins_has, has_full, St.has_add]; done) | (simp [-List.map_take, -List.map_drop, or_imp, forall_and, Seg.a, Vec.a, Leg.a, num, okEl, cells_agg, cells_int, cells_sl, cells_bool, AV.isCell]; done) | (simp; omega))) (fun _ _ => ?_)) | (with_reducible refine appD_V (by refine ⟨?_, ?_, ?_, ?_, ?_⟩ <;> (first | assumption | omega | exact St.has_add (by assumption) | (simp only [ins_has]; exact St.has_add (by assumption)) | (simp only [ins_has, fresh_ins, kill_ins, add_ins] at *; exact St.has_add (by assumption)) | (simp only [*, ins_has, has_full, St.has_add]; done) | (simp [-List.map_take, -List.map_drop, or_imp, forall_and, Seg.a, Vec.a, Leg.a, num, okEl, cells_agg, cells_int, cells_sl, cells_bool, AV.isCell]; done) | (simp; omega))) (fun _ _ => ?_))) | (with_reducible refine freshQ_i (fun _ _ => ?_)) | (with_reducible refine nilQ_i (fun _ _ => ?_))))
    exact (idx_none (g := fun k => g (xs.getD k default)) HN.out).symm
theorem key2_v (x : Job) : VPure Try.prog 59 [x.a] (.int .i64 x.since) := by
  refine VPure.of v_preempt_running_2_ok (Nat.le_of_ble_eq_true rfl) (fun Z st => ?_)
  simp only [v_preempt_running_2, ↓vD, vU, ↓vMd, vMu, VE.ev, VE.evs, retvs, tupOf, grab, vfill, vbsl, eqCells, eqCell, veqs, veqs1, vmnx, AV.isCell, AV.isUndef, Nat.reduceEqDiff, Nat.reduceAdd, Nat.reduceSub, Nat.reduceLeDiff, Nat.reduceLT, reduceIte, reduceCtorEq, Nat.reduceBEq, k_app, k_slc1]
  (repeat' (first | (simp (config := { maxDischargeDepth := 16 }) only [*, Job.a, vX, Int.reduceLE, Int.reduceLT, Int.reduceGE, Int.reduceGT, Int.reduceBEq, Int.reduceBNe, Int.reduceAdd, Int.reduceSub, Int.reduceMul, Int.reduceNeg, ↓vD, vU, ↓vMd, vMu, VE.ev, VE.evs, retvs, tupOf, grab, vfill, vbsl, eqCells, eqCell, veqs, veqs1, vmnx, AV.isCell, AV.isUndef, Nat.reduceEqDiff, Nat.reduceAdd, Nat.reduceSub, Nat.reduceLeDiff, Nat.reduceLT, reduceIte, reduceCtorEq, Nat.reduceBEq]) | (simp (disch := first | assumption | omega | exact Seg.len _ | exact Vec.len _ | exact Leg.len _ | exact num_len _ | exact rowA_len _ | exact rowA_len | exact rowT_len _ | exact rowT_len | exact Seg.len | exact Vec.len | exact Leg.len | exact num_len | exact AV.slen _ _ | rfl) only [Job.a, vP]) | (with_reducible (first | refine gsnd (fun _ => ?_) (fun _ => ?_) | refine csnd (fun _ => ?_) (fun _ => ?_) | refine gsd (fun _ => ?_) (fun _ => ?_) | refine csd (fun _ => ?_) (fun _ => ?_) | refine gsn (fun _ => ?_) (fun _ => ?_) | refine csn (fun _ => ?_) (fun _ => ?_))) | (with_reducible refine gs (fun _ => ?_) (fun _ => ?_)) | (with_reducible refine cs_ (fun _ => ?_) (fun _ => ?_)) | (with_reducible refine objQ_i (fun _ _ => ?_); (repeat (with_reducible refine imp_i (fun _ => ?_)))) | ((try with_reducible refine appK_a ?_); first | (with_reducible refine appD_F (by refine ⟨?_, ?_, ?_, ?_⟩ <;> (first | assumption | omega | exact St.has_add (by assumption) | (simp only [ins_has]; exact St.has_add (by assumption)) | (simp only [ins_has, fresh_ins, kill_ins, add_ins] at *; exact St.has_add (by assumption)) | (simp only [*, ins_has, has_full, St.has_add]; done) | (simp [-List.map_take, -List.map_drop, or_imp, forall_and, Seg.a, Vec.a, Leg.a, num, okEl, cells_agg, cells_int, cells_sl, cells_bool, AV.isCell]; done) | (simp; omega))) (fun _ _ => ?_)) | (with_reducible refine appD_V (by refine ⟨?_, ?_, ?_, ?_, ?_⟩ <;> (first | assumption | omega | exact St.has_add (by assumption) | (simp only [ins_has]; exact St.has_add (by assumption)) | (simp only [ins_has, fresh_ins, kill_ins, add_ins] at *; exact St.has_add (by assumption)) | (simp only [*, ins_has, has_full, St.has_add]; done) | (simp [-List.map_take, -List.map_drop, or_imp, forall_and, Seg.a, Vec.a, Leg.a, num, okEl, cells_agg, cells_int, cells_sl, cells_bool, AV.isCell]; done) | (simp; omega))) (fun _ _ => ?_))) | (with_reducible refine freshQ_i (fun _ _ => ?_)) | (with_reducible refine nilQ_i (fun _ _ => ?_))))
theorem runs_v (x : Job) : VPure Try.prog 58 [x.a] (.bool (!runsJ x)) := by
  refine VPure.of v_preempt_running_1_ok (Nat.le_of_ble_eq_true rfl) (fun Z st => ?_)
  unfold runsJ
  simp only [v_preempt_running_1, ↓vD, vU, ↓vMd, vMu, VE.ev, VE.evs, retvs, tupOf, grab, vfill, vbsl, eqCells, eqCell, veqs, veqs1, vmnx, AV.isCell, AV.isUndef, Nat.reduceEqDiff, Nat.reduceAdd, Nat.reduceSub, Nat.reduceLeDiff, Nat.reduceLT, reduceIte, reduceCtorEq, Nat.reduceBEq, k_app, k_slc1]
  by_cases h : x.since ≤ 0
  · (repeat' (first | (simp (config := { maxDischargeDepth := 16 }) only [*, Job.a, vX, Int.reduceLE, Int.reduceLT, Int.reduceGE, Int.reduceGT, Int.reduceBEq, Int.reduceBNe, Int.reduceAdd, Int.reduceSub, Int.reduceMul, Int.reduceNeg, ↓vD, vU, ↓vMd, vMu, VE.ev, VE.evs, retvs, tupOf, grab, vfill, vbsl, eqCells, eqCell, veqs, veqs1, vmnx, AV.isCell, AV.isUndef, Nat.reduceEqDiff, Nat.reduceAdd, Nat.reduceSub, Nat.reduceLeDiff, Nat.reduceLT, reduceIte, reduceCtorEq, Nat.reduceBEq]) | (simp (disch := first | assumption | omega | exact Seg.len _ | exact Vec.len _ | exact Leg.len _ | exact num_len _ | exact rowA_len _ | exact rowA_len | exact rowT_len _ | exact rowT_len | exact Seg.len | exact Vec.len | exact Leg.len | exact num_len | exact AV.slen _ _ | rfl) only [Job.a, vP]) | (with_reducible (first | refine gsnd (fun _ => ?_) (fun _ => ?_) | refine csnd (fun _ => ?_) (fun _ => ?_) | refine gsd (fun _ => ?_) (fun _ => ?_) | refine csd (fun _ => ?_) (fun _ => ?_) | refine gsn (fun _ => ?_) (fun _ => ?_) | refine csn (fun _ => ?_) (fun _ => ?_))) | (with_reducible refine gs (fun _ => ?_) (fun _ => ?_)) | (with_reducible refine cs_ (fun _ => ?_) (fun _ => ?_)) | (with_reducible refine objQ_i (fun _ _ => ?_); (repeat (with_reducible refine imp_i (fun _ => ?_)))) | ((try with_reducible refine appK_a ?_); first | (with_reducible refine appD_F (by refine ⟨?_, ?_, ?_, ?_⟩ <;> (first | assumption | omega | exact St.has_add (by assumption) | (simp only [ins_has]; exact St.has_add (by assumption)) | (simp only [ins_has, fresh_ins, kill_ins, add_ins] at *; exact St.has_add (by assumption)) | (simp only [*, ins_has, has_full, St.has_add]; done) | (simp [-List.map_take, -List.map_drop, or_imp, forall_and, Seg.a, Vec.a, Leg.a, num, okEl, cells_agg, cells_int, cells_sl, cells_bool, AV.isCell]; done) | (simp; omega))) (fun _ _ => ?_)) | (with_reducible refine appD_V (by refine ⟨?_, ?_, ?_, ?_, ?_⟩ <;> (first | assumption | omega | exact St.has_add (by assumption) | (simp only [ins_has]; exact St.has_add (by assumption)) | (simp only [ins_has, fresh_ins, kill_ins, add_ins] at *; exact St.has_add (by assumption)) | (simp only [*, ins_has, has_full, St.has_add]; done) | (simp [-List.map_take, -List.map_drop, or_imp, forall_and, Seg.a, Vec.a, Leg.a, num, okEl, cells_agg, cells_int, cells_sl, cells_bool, AV.isCell]; done) | (simp; omega))) (fun _ _ => ?_))) | (with_reducible refine freshQ_i (fun _ _ => ?_)) | (with_reducible refine nilQ_i (fun _ _ => ?_))))
  · (repeat' (first | (simp (config := { maxDischargeDepth := 16 }) only [*, Job.a, vX, Int.reduceLE, Int.reduceLT, Int.reduceGE, Int.reduceGT, Int.reduceBEq, Int.reduceBNe, Int.reduceAdd, Int.reduceSub, Int.reduceMul, Int.reduceNeg, ↓vD, vU, ↓vMd, vMu, VE.ev, VE.evs, retvs, tupOf, grab, vfill, vbsl, eqCells, eqCell, veqs, veqs1, vmnx, AV.isCell, AV.isUndef, Nat.reduceEqDiff, Nat.reduceAdd, Nat.reduceSub, Nat.reduceLeDiff, Nat.reduceLT, reduceIte, reduceCtorEq, Nat.reduceBEq]) | (simp (disch := first | assumption | omega | exact Seg.len _ | exact Vec.len _ | exact Leg.len _ | exact num_len _ | exact rowA_len _ | exact rowA_len | exact rowT_len _ | exact rowT_len | exact Seg.len | exact Vec.len | exact Leg.len | exact num_len | exact AV.slen _ _ | rfl) only [Job.a, vP]) | (with_reducible (first | refine gsnd (fun _ => ?_) (fun _ => ?_) | refine csnd (fun _ => ?_) (fun _ => ?_) | refine gsd (fun _ => ?_) (fun _ => ?_) | refine csd (fun _ => ?_) (fun _ => ?_) | refine gsn (fun _ => ?_) (fun _ => ?_) | refine csn (fun _ => ?_) (fun _ => ?_))) | (with_reducible refine gs (fun _ => ?_) (fun _ => ?_)) | (with_reducible refine cs_ (fun _ => ?_) (fun _ => ?_)) | (with_reducible refine objQ_i (fun _ _ => ?_); (repeat (with_reducible refine imp_i (fun _ => ?_)))) | ((try with_reducible refine appK_a ?_); first | (with_reducible refine appD_F (by refine ⟨?_, ?_, ?_, ?_⟩ <;> (first | assumption | omega | exact St.has_add (by assumption) | (simp only [ins_has]; exact St.has_add (by assumption)) | (simp only [ins_has, fresh_ins, kill_ins, add_ins] at *; exact St.has_add (by assumption)) | (simp only [*, ins_has, has_full, St.has_add]; done) | (simp [-List.map_take, -List.map_drop, or_imp, forall_and, Seg.a, Vec.a, Leg.a, num, okEl, cells_agg, cells_int, cells_sl, cells_bool, AV.isCell]; done) | (simp; omega))) (fun _ _ => ?_)) | (with_reducible refine appD_V (by refine ⟨?_, ?_, ?_, ?_, ?_⟩ <;> (first | assumption | omega | exact St.has_add (by assumption) | (simp only [ins_has]; exact St.has_add (by assumption)) | (simp only [ins_has, fresh_ins, kill_ins, add_ins] at *; exact St.has_add (by assumption)) | (simp only [*, ins_has, has_full, St.has_add]; done) | (simp [-List.map_take, -List.map_drop, or_imp, forall_and, Seg.a, Vec.a, Leg.a, num, okEl, cells_agg, cells_int, cells_sl, cells_bool, AV.isCell]; done) | (simp; omega))) (fun _ _ => ?_))) | (with_reducible refine freshQ_i (fun _ _ => ?_)) | (with_reducible refine nilQ_i (fun _ _ => ?_))))
theorem key3_v (x : Job) : VPure Try.prog 60 [x.a] (.int .i64 x.id) := by
  obtain ⟨⟨h1, h2⟩, _⟩ := x.h
  refine VPure.of v_preempt_running_3_ok (Nat.le_of_ble_eq_true rfl) (fun Z st => ?_)
  simp only [v_preempt_running_3, ↓vD, vU, ↓vMd, vMu, VE.ev, VE.evs, retvs, tupOf, grab, vfill, vbsl, eqCells, eqCell, veqs, veqs1, vmnx, AV.isCell, AV.isUndef, Nat.reduceEqDiff, Nat.reduceAdd, Nat.reduceSub, Nat.reduceLeDiff, Nat.reduceLT, reduceIte, reduceCtorEq, Nat.reduceBEq, k_app, k_slc1]
  (repeat' (first | (simp (config := { maxDischargeDepth := 16 }) only [*, Job.a, vX, Int.reduceLE, Int.reduceLT, Int.reduceGE, Int.reduceGT, Int.reduceBEq, Int.reduceBNe, Int.reduceAdd, Int.reduceSub, Int.reduceMul, Int.reduceNeg, ↓vD, vU, ↓vMd, vMu, VE.ev, VE.evs, retvs, tupOf, grab, vfill, vbsl, eqCells, eqCell, veqs, veqs1, vmnx, AV.isCell, AV.isUndef, Nat.reduceEqDiff, Nat.reduceAdd, Nat.reduceSub, Nat.reduceLeDiff, Nat.reduceLT, reduceIte, reduceCtorEq, Nat.reduceBEq]) | (simp (disch := first | assumption | omega | exact Seg.len _ | exact Vec.len _ | exact Leg.len _ | exact num_len _ | exact rowA_len _ | exact rowA_len | exact rowT_len _ | exact rowT_len | exact Seg.len | exact Vec.len | exact Leg.len | exact num_len | exact AV.slen _ _ | rfl) only [Job.a, vP]) | (with_reducible (first | refine gsnd (fun _ => ?_) (fun _ => ?_) | refine csnd (fun _ => ?_) (fun _ => ?_) | refine gsd (fun _ => ?_) (fun _ => ?_) | refine csd (fun _ => ?_) (fun _ => ?_) | refine gsn (fun _ => ?_) (fun _ => ?_) | refine csn (fun _ => ?_) (fun _ => ?_))) | (with_reducible refine gs (fun _ => ?_) (fun _ => ?_)) | (with_reducible refine cs_ (fun _ => ?_) (fun _ => ?_)) | (with_reducible refine objQ_i (fun _ _ => ?_); (repeat (with_reducible refine imp_i (fun _ => ?_)))) | ((try with_reducible refine appK_a ?_); first | (with_reducible refine appD_F (by refine ⟨?_, ?_, ?_, ?_⟩ <;> (first | assumption | omega | exact St.has_add (by assumption) | (simp only [ins_has]; exact St.has_add (by assumption)) | (simp only [ins_has, fresh_ins, kill_ins, add_ins] at *; exact St.has_add (by assumption)) | (simp only [*, ins_has, has_full, St.has_add]; done) | (simp [-List.map_take, -List.map_drop, or_imp, forall_and, Seg.a, Vec.a, Leg.a, num, okEl, cells_agg, cells_int, cells_sl, cells_bool, AV.isCell]; done) | (simp; omega))) (fun _ _ => ?_)) | (with_reducible refine appD_V (by refine ⟨?_, ?_, ?_, ?_, ?_⟩ <;> (first | assumption | omega | exact St.has_add (by assumption) | (simp only [ins_has]; exact St.has_add (by assumption)) | (simp only [ins_has, fresh_ins, kill_ins, add_ins] at *; exact St.has_add (by assumption)) | (simp only [*, ins_has, has_full, St.has_add]; done) | (simp [-List.map_take, -List.map_drop, or_imp, forall_and, Seg.a, Vec.a, Leg.a, num, okEl, cells_agg, cells_int, cells_sl, cells_bool, AV.isCell]; done) | (simp; omega))) (fun _ _ => ?_))) | (with_reducible refine freshQ_i (fun _ _ => ?_)) | (with_reducible refine nilQ_i (fun _ _ => ?_))))
/-- The keys. -/
def keysA : AV := .sl [.agg [.clo 59 [] []], .agg [.clo 60 [] []]] .full
theorem by_c : VPure Try.prog 62 [keysA] (.clo 89 [] [.iptr keysA 0]) := fun Z st => by
  unfold keysA
  refine (VCalls.of (K := fun r s => ∃ b, st.objs b = none ∧ r = .clo 89 [] [.ptr b 0] ∧ s = st.ins b (.cells [keysA])) v_preempt_by_ok (Nat.le_of_ble_eq_true rfl) ?_).wk ?_
  · simp only [v_preempt_by, ↓vD, vU, ↓vMd, vMu, VE.ev, VE.evs, retvs, tupOf, grab, vfill, vbsl, eqCells, eqCell, veqs, veqs1, vmnx, AV.isCell, AV.isUndef, Nat.reduceEqDiff, Nat.reduceAdd, Nat.reduceSub, Nat.reduceLeDiff, Nat.reduceLT, reduceIte, reduceCtorEq, Nat.reduceBEq, k_app, k_slc1]
    (repeat' (first | (simp (config := { maxDischargeDepth := 16 }) only [*, vX, Int.reduceLE, Int.reduceLT, Int.reduceGE, Int.reduceGT, Int.reduceBEq, Int.reduceBNe, Int.reduceAdd, Int.reduceSub, Int.reduceMul, Int.reduceNeg, ↓vD, vU, ↓vMd, vMu, VE.ev, VE.evs, retvs, tupOf, grab, vfill, vbsl, eqCells, eqCell, veqs, veqs1, vmnx, AV.isCell, AV.isUndef, Nat.reduceEqDiff, Nat.reduceAdd, Nat.reduceSub, Nat.reduceLeDiff, Nat.reduceLT, reduceIte, reduceCtorEq, Nat.reduceBEq]) | (simp (disch := first | assumption | omega | exact Seg.len _ | exact Vec.len _ | exact Leg.len _ | exact num_len _ | exact rowA_len _ | exact rowA_len | exact rowT_len _ | exact rowT_len | exact Seg.len | exact Vec.len | exact Leg.len | exact num_len | exact AV.slen _ _ | rfl) only [vP]) | (with_reducible (first | refine gsnd (fun _ => ?_) (fun _ => ?_) | refine csnd (fun _ => ?_) (fun _ => ?_) | refine gsd (fun _ => ?_) (fun _ => ?_) | refine csd (fun _ => ?_) (fun _ => ?_) | refine gsn (fun _ => ?_) (fun _ => ?_) | refine csn (fun _ => ?_) (fun _ => ?_))) | (with_reducible refine gs (fun _ => ?_) (fun _ => ?_)) | (with_reducible refine cs_ (fun _ => ?_) (fun _ => ?_)) | (with_reducible refine objQ_i (fun _ _ => ?_); (repeat (with_reducible refine imp_i (fun _ => ?_)))) | ((try with_reducible refine appK_a ?_); first | (with_reducible refine appD_F (by refine ⟨?_, ?_, ?_, ?_⟩ <;> (first | assumption | omega | exact St.has_add (by assumption) | (simp only [ins_has]; exact St.has_add (by assumption)) | (simp only [ins_has, fresh_ins, kill_ins, add_ins] at *; exact St.has_add (by assumption)) | (simp only [*, ins_has, has_full, St.has_add]; done) | (simp [-List.map_take, -List.map_drop, or_imp, forall_and, Seg.a, Vec.a, Leg.a, num, okEl, cells_agg, cells_int, cells_sl, cells_bool, AV.isCell]; done) | (simp; omega))) (fun _ _ => ?_)) | (with_reducible refine appD_V (by refine ⟨?_, ?_, ?_, ?_, ?_⟩ <;> (first | assumption | omega | exact St.has_add (by assumption) | (simp only [ins_has]; exact St.has_add (by assumption)) | (simp only [ins_has, fresh_ins, kill_ins, add_ins] at *; exact St.has_add (by assumption)) | (simp only [*, ins_has, has_full, St.has_add]; done) | (simp [-List.map_take, -List.map_drop, or_imp, forall_and, Seg.a, Vec.a, Leg.a, num, okEl, cells_agg, cells_int, cells_sl, cells_bool, AV.isCell]; done) | (simp; omega))) (fun _ _ => ?_))) | (with_reducible refine freshQ_i (fun _ _ => ?_)) | (with_reducible refine nilQ_i (fun _ _ => ?_))))
    rename_i b hb
    exact ⟨_, St.le.refl _, b, hb, rfl, rfl⟩
  · rintro r s ⟨b, hb, rfl, rfl⟩
    (refine ⟨_, st, (Wk.fz _ (b := b) (x := keysA) (by first | (simp only [St.ins, St.del, *, if_true, if_false, eq_self, not_false_eq_true, ite_true, ite_false]; first | done | rfl) | (simp [St.ins, St.del, *]; done) | (simp [St.ins, St.del, *]; rfl)) (by first | rfl | simp [okEl, AV.cells, AV.isCell]) (by first | exact Nat.zero_lt_succ _ | simp [AV.cells]) _).trans (Wk.le (by (refine ⟨fun i o e => ?_, fun _ h => h⟩; revert e; simp only [St.ins, St.del, add_objs, kill_objs]; (repeat' split); all_goals (first | exact id | (intros; contradiction) | (intros; subst_vars; contradiction) | (intros; simp_all; done) | (intros; subst_vars; simp_all; done)))) _), ?_⟩; simp only [AV.sub, AV.subL, *, if_true, if_false, eq_self, ite_true, ite_false])
    exact ⟨rfl, trivial⟩
theorem isNaN_q (a : Int) : VPure Try.prog 69 [.int .i64 a] (.bool false) := by
  refine VPure.of v_cmp_isNaN_int64_ok (Nat.le_of_ble_eq_true rfl) (fun Z st => ?_)
  simp only [v_cmp_isNaN_int64, ↓vD, vU, ↓vMd, vMu, VE.ev, VE.evs, retvs, tupOf, grab, vfill, vbsl, eqCells, eqCell, veqs, veqs1, vmnx, AV.isCell, AV.isUndef, Nat.reduceEqDiff, Nat.reduceAdd, Nat.reduceSub, Nat.reduceLeDiff, Nat.reduceLT, reduceIte, reduceCtorEq, Nat.reduceBEq, k_app, k_slc1]
  (repeat' (first | (simp (config := { maxDischargeDepth := 16 }) only [*, vX, Int.reduceLE, Int.reduceLT, Int.reduceGE, Int.reduceGT, Int.reduceBEq, Int.reduceBNe, Int.reduceAdd, Int.reduceSub, Int.reduceMul, Int.reduceNeg, ↓vD, vU, ↓vMd, vMu, VE.ev, VE.evs, retvs, tupOf, grab, vfill, vbsl, eqCells, eqCell, veqs, veqs1, vmnx, AV.isCell, AV.isUndef, Nat.reduceEqDiff, Nat.reduceAdd, Nat.reduceSub, Nat.reduceLeDiff, Nat.reduceLT, reduceIte, reduceCtorEq, Nat.reduceBEq]) | (simp (disch := first | assumption | omega | exact Seg.len _ | exact Vec.len _ | exact Leg.len _ | exact num_len _ | exact rowA_len _ | exact rowA_len | exact rowT_len _ | exact rowT_len | exact Seg.len | exact Vec.len | exact Leg.len | exact num_len | exact AV.slen _ _ | rfl) only [vP]) | (with_reducible (first | refine gsnd (fun _ => ?_) (fun _ => ?_) | refine csnd (fun _ => ?_) (fun _ => ?_) | refine gsd (fun _ => ?_) (fun _ => ?_) | refine csd (fun _ => ?_) (fun _ => ?_) | refine gsn (fun _ => ?_) (fun _ => ?_) | refine csn (fun _ => ?_) (fun _ => ?_))) | (with_reducible refine gs (fun _ => ?_) (fun _ => ?_)) | (with_reducible refine cs_ (fun _ => ?_) (fun _ => ?_)) | (with_reducible refine objQ_i (fun _ _ => ?_); (repeat (with_reducible refine imp_i (fun _ => ?_)))) | ((try with_reducible refine appK_a ?_); first | (with_reducible refine appD_F (by refine ⟨?_, ?_, ?_, ?_⟩ <;> (first | assumption | omega | exact St.has_add (by assumption) | (simp only [ins_has]; exact St.has_add (by assumption)) | (simp only [ins_has, fresh_ins, kill_ins, add_ins] at *; exact St.has_add (by assumption)) | (simp only [*, ins_has, has_full, St.has_add]; done) | (simp [-List.map_take, -List.map_drop, or_imp, forall_and, Seg.a, Vec.a, Leg.a, num, okEl, cells_agg, cells_int, cells_sl, cells_bool, AV.isCell]; done) | (simp; omega))) (fun _ _ => ?_)) | (with_reducible refine appD_V (by refine ⟨?_, ?_, ?_, ?_, ?_⟩ <;> (first | assumption | omega | exact St.has_add (by assumption) | (simp only [ins_has]; exact St.has_add (by assumption)) | (simp only [ins_has, fresh_ins, kill_ins, add_ins] at *; exact St.has_add (by assumption)) | (simp only [*, ins_has, has_full, St.has_add]; done) | (simp [-List.map_take, -List.map_drop, or_imp, forall_and, Seg.a, Vec.a, Leg.a, num, okEl, cells_agg, cells_int, cells_sl, cells_bool, AV.isCell]; done) | (simp; omega))) (fun _ _ => ?_))) | (with_reducible refine freshQ_i (fun _ _ => ?_)) | (with_reducible refine nilQ_i (fun _ _ => ?_))))
theorem Compare_q (a b : Int) : VPure Try.prog 40 [.int .i64 a, .int .i64 b] (.int .i64 (cmpQ a b)) := by
  have h1 := isNaN_q a
  have h2 := isNaN_q b
  refine VPure.of v_cmp_Compare_int64_ok (Nat.le_of_ble_eq_true rfl) (fun Z st => ?_)
  simp only [v_cmp_Compare_int64, ↓vD, vU, ↓vMd, vMu, VE.ev, VE.evs, retvs, tupOf, grab, vfill, vbsl, eqCells, eqCell, veqs, veqs1, vmnx, AV.isCell, AV.isUndef, Nat.reduceEqDiff, Nat.reduceAdd, Nat.reduceSub, Nat.reduceLeDiff, Nat.reduceLT, reduceIte, reduceCtorEq, Nat.reduceBEq, k_app, k_slc1]
  unfold cmpQ
  by_cases c1 : a < b
  · (repeat' (first | (simp (config := { maxDischargeDepth := 16 }) only [*, vX, Int.reduceLE, Int.reduceLT, Int.reduceGE, Int.reduceGT, Int.reduceBEq, Int.reduceBNe, Int.reduceAdd, Int.reduceSub, Int.reduceMul, Int.reduceNeg, ↓vD, vU, ↓vMd, vMu, VE.ev, VE.evs, retvs, tupOf, grab, vfill, vbsl, eqCells, eqCell, veqs, veqs1, vmnx, AV.isCell, AV.isUndef, Nat.reduceEqDiff, Nat.reduceAdd, Nat.reduceSub, Nat.reduceLeDiff, Nat.reduceLT, reduceIte, reduceCtorEq, Nat.reduceBEq]) | (simp (disch := first | assumption | omega | exact Seg.len _ | exact Vec.len _ | exact Leg.len _ | exact num_len _ | exact rowA_len _ | exact rowA_len | exact rowT_len _ | exact rowT_len | exact Seg.len | exact Vec.len | exact Leg.len | exact num_len | exact AV.slen _ _ | rfl) only [vP]) | (with_reducible (first | refine gsnd (fun _ => ?_) (fun _ => ?_) | refine csnd (fun _ => ?_) (fun _ => ?_) | refine gsd (fun _ => ?_) (fun _ => ?_) | refine csd (fun _ => ?_) (fun _ => ?_) | refine gsn (fun _ => ?_) (fun _ => ?_) | refine csn (fun _ => ?_) (fun _ => ?_))) | (with_reducible refine gs (fun _ => ?_) (fun _ => ?_)) | (with_reducible refine cs_ (fun _ => ?_) (fun _ => ?_)) | (with_reducible refine objQ_i (fun _ _ => ?_); (repeat (with_reducible refine imp_i (fun _ => ?_)))) | ((try with_reducible refine appK_a ?_); first | (with_reducible refine appD_F (by refine ⟨?_, ?_, ?_, ?_⟩ <;> (first | assumption | omega | exact St.has_add (by assumption) | (simp only [ins_has]; exact St.has_add (by assumption)) | (simp only [ins_has, fresh_ins, kill_ins, add_ins] at *; exact St.has_add (by assumption)) | (simp only [*, ins_has, has_full, St.has_add]; done) | (simp [-List.map_take, -List.map_drop, or_imp, forall_and, Seg.a, Vec.a, Leg.a, num, okEl, cells_agg, cells_int, cells_sl, cells_bool, AV.isCell]; done) | (simp; omega))) (fun _ _ => ?_)) | (with_reducible refine appD_V (by refine ⟨?_, ?_, ?_, ?_, ?_⟩ <;> (first | assumption | omega | exact St.has_add (by assumption) | (simp only [ins_has]; exact St.has_add (by assumption)) | (simp only [ins_has, fresh_ins, kill_ins, add_ins] at *; exact St.has_add (by assumption)) | (simp only [*, ins_has, has_full, St.has_add]; done) | (simp [-List.map_take, -List.map_drop, or_imp, forall_and, Seg.a, Vec.a, Leg.a, num, okEl, cells_agg, cells_int, cells_sl, cells_bool, AV.isCell]; done) | (simp; omega))) (fun _ _ => ?_))) | (with_reducible refine freshQ_i (fun _ _ => ?_)) | (with_reducible refine nilQ_i (fun _ _ => ?_)) | (with_reducible first | refine callH_use (h1) ?_ | refine pureQ_use (h1) ?_) | (with_reducible first | refine callH_use (h2) ?_ | refine pureQ_use (h2) ?_)))
  · by_cases c2 : b < a
    · (repeat' (first | (simp (config := { maxDischargeDepth := 16 }) only [*, vX, Int.reduceLE, Int.reduceLT, Int.reduceGE, Int.reduceGT, Int.reduceBEq, Int.reduceBNe, Int.reduceAdd, Int.reduceSub, Int.reduceMul, Int.reduceNeg, ↓vD, vU, ↓vMd, vMu, VE.ev, VE.evs, retvs, tupOf, grab, vfill, vbsl, eqCells, eqCell, veqs, veqs1, vmnx, AV.isCell, AV.isUndef, Nat.reduceEqDiff, Nat.reduceAdd, Nat.reduceSub, Nat.reduceLeDiff, Nat.reduceLT, reduceIte, reduceCtorEq, Nat.reduceBEq]) | (simp (disch := first | assumption | omega | exact Seg.len _ | exact Vec.len _ | exact Leg.len _ | exact num_len _ | exact rowA_len _ | exact rowA_len | exact rowT_len _ | exact rowT_len | exact Seg.len | exact Vec.len | exact Leg.len | exact num_len | exact AV.slen _ _ | rfl) only [vP]) | (with_reducible (first | refine gsnd (fun _ => ?_) (fun _ => ?_) | refine csnd (fun _ => ?_) (fun _ => ?_) | refine gsd (fun _ => ?_) (fun _ => ?_) | refine csd (fun _ => ?_) (fun _ => ?_) | refine gsn (fun _ => ?_) (fun _ => ?_) | refine csn (fun _ => ?_) (fun _ => ?_))) | (with_reducible refine gs (fun _ => ?_) (fun _ => ?_)) | (with_reducible refine cs_ (fun _ => ?_) (fun _ => ?_)) | (with_reducible refine objQ_i (fun _ _ => ?_); (repeat (with_reducible refine imp_i (fun _ => ?_)))) | ((try with_reducible refine appK_a ?_); first | (with_reducible refine appD_F (by refine ⟨?_, ?_, ?_, ?_⟩ <;> (first | assumption | omega | exact St.has_add (by assumption) | (simp only [ins_has]; exact St.has_add (by assumption)) | (simp only [ins_has, fresh_ins, kill_ins, add_ins] at *; exact St.has_add (by assumption)) | (simp only [*, ins_has, has_full, St.has_add]; done) | (simp [-List.map_take, -List.map_drop, or_imp, forall_and, Seg.a, Vec.a, Leg.a, num, okEl, cells_agg, cells_int, cells_sl, cells_bool, AV.isCell]; done) | (simp; omega))) (fun _ _ => ?_)) | (with_reducible refine appD_V (by refine ⟨?_, ?_, ?_, ?_, ?_⟩ <;> (first | assumption | omega | exact St.has_add (by assumption) | (simp only [ins_has]; exact St.has_add (by assumption)) | (simp only [ins_has, fresh_ins, kill_ins, add_ins] at *; exact St.has_add (by assumption)) | (simp only [*, ins_has, has_full, St.has_add]; done) | (simp [-List.map_take, -List.map_drop, or_imp, forall_and, Seg.a, Vec.a, Leg.a, num, okEl, cells_agg, cells_int, cells_sl, cells_bool, AV.isCell]; done) | (simp; omega))) (fun _ _ => ?_))) | (with_reducible refine freshQ_i (fun _ _ => ?_)) | (with_reducible refine nilQ_i (fun _ _ => ?_)) | (with_reducible first | refine callH_use (h1) ?_ | refine pureQ_use (h1) ?_) | (with_reducible first | refine callH_use (h2) ?_ | refine pureQ_use (h2) ?_)))
    · (repeat' (first | (simp (config := { maxDischargeDepth := 16 }) only [*, vX, Int.reduceLE, Int.reduceLT, Int.reduceGE, Int.reduceGT, Int.reduceBEq, Int.reduceBNe, Int.reduceAdd, Int.reduceSub, Int.reduceMul, Int.reduceNeg, ↓vD, vU, ↓vMd, vMu, VE.ev, VE.evs, retvs, tupOf, grab, vfill, vbsl, eqCells, eqCell, veqs, veqs1, vmnx, AV.isCell, AV.isUndef, Nat.reduceEqDiff, Nat.reduceAdd, Nat.reduceSub, Nat.reduceLeDiff, Nat.reduceLT, reduceIte, reduceCtorEq, Nat.reduceBEq]) | (simp (disch := first | assumption | omega | exact Seg.len _ | exact Vec.len _ | exact Leg.len _ | exact num_len _ | exact rowA_len _ | exact rowA_len | exact rowT_len _ | exact rowT_len | exact Seg.len | exact Vec.len | exact Leg.len | exact num_len | exact AV.slen _ _ | rfl) only [vP]) | (with_reducible (first | refine gsnd (fun _ => ?_) (fun _ => ?_) | refine csnd (fun _ => ?_) (fun _ => ?_) | refine gsd (fun _ => ?_) (fun _ => ?_) | refine csd (fun _ => ?_) (fun _ => ?_) | refine gsn (fun _ => ?_) (fun _ => ?_) | refine csn (fun _ => ?_) (fun _ => ?_))) | (with_reducible refine gs (fun _ => ?_) (fun _ => ?_)) | (with_reducible refine cs_ (fun _ => ?_) (fun _ => ?_)) | (with_reducible refine objQ_i (fun _ _ => ?_); (repeat (with_reducible refine imp_i (fun _ => ?_)))) | ((try with_reducible refine appK_a ?_); first | (with_reducible refine appD_F (by refine ⟨?_, ?_, ?_, ?_⟩ <;> (first | assumption | omega | exact St.has_add (by assumption) | (simp only [ins_has]; exact St.has_add (by assumption)) | (simp only [ins_has, fresh_ins, kill_ins, add_ins] at *; exact St.has_add (by assumption)) | (simp only [*, ins_has, has_full, St.has_add]; done) | (simp [-List.map_take, -List.map_drop, or_imp, forall_and, Seg.a, Vec.a, Leg.a, num, okEl, cells_agg, cells_int, cells_sl, cells_bool, AV.isCell]; done) | (simp; omega))) (fun _ _ => ?_)) | (with_reducible refine appD_V (by refine ⟨?_, ?_, ?_, ?_, ?_⟩ <;> (first | assumption | omega | exact St.has_add (by assumption) | (simp only [ins_has]; exact St.has_add (by assumption)) | (simp only [ins_has, fresh_ins, kill_ins, add_ins] at *; exact St.has_add (by assumption)) | (simp only [*, ins_has, has_full, St.has_add]; done) | (simp [-List.map_take, -List.map_drop, or_imp, forall_and, Seg.a, Vec.a, Leg.a, num, okEl, cells_agg, cells_int, cells_sl, cells_bool, AV.isCell]; done) | (simp; omega))) (fun _ _ => ?_))) | (with_reducible refine freshQ_i (fun _ _ => ?_)) | (with_reducible refine nilQ_i (fun _ _ => ?_)) | (with_reducible first | refine callH_use (h1) ?_ | refine pureQ_use (h1) ?_) | (with_reducible first | refine callH_use (h2) ?_ | refine pureQ_use (h2) ?_)))
theorem by1_v (x y : Job) : VPure Try.prog 89 [x.a, y.a, .iptr keysA 0] (.int .i64 (cmpJ x y)) := by
  have k1 := key2_v x
  have k2 := key2_v y
  have k3 := key3_v x
  have k4 := key3_v y
  have c1 := Compare_q y.since x.since
  have c2 := Compare_q y.id x.id
  have HC : Hid (cmpJ x y = if cmpQ y.since x.since = 0 then cmpQ y.id x.id else cmpQ y.since x.since) := ⟨rfl⟩
  obtain ⟨p, hp⟩ : ∃ p, cmpQ y.since x.since = p := ⟨_, rfl⟩
  obtain ⟨q, hq⟩ : ∃ p, cmpQ y.id x.id = p := ⟨_, rfl⟩
  rw [hp] at c1
  rw [hq] at c2
  rw [hp, hq] at HC
  obtain ⟨r, hr⟩ : ∃ r, cmpJ x y = r := ⟨_, rfl⟩
  rw [hr] at HC ⊢
  clear hp hq hr
  have i0 : viad 1 (.sl [.agg [.clo 59 [] []], .agg [.clo 60 [] []]] .full) (.int .i64 0) = some (.iptr (.agg [.clo 59 [] []]) 0) := by simp [viad, AV.cells]
  have i1 : viad 1 (.sl [.agg [.clo 59 [] []], .agg [.clo 60 [] []]] .full) (.int .i64 1) = some (.iptr (.agg [.clo 60 [] []]) 0) := by simp [viad, AV.cells]
  simp only [Job.a] at k1 k2 k3 k4
  unfold keysA
  refine VPure.of v_preempt_by_1_ok (Nat.le_of_ble_eq_true rfl) (fun Z st => ?_)
  simp only [v_preempt_by_1, ↓vD, vU, ↓vMd, vMu, VE.ev, VE.evs, retvs, tupOf, grab, vfill, vbsl, eqCells, eqCell, veqs, veqs1, vmnx, AV.isCell, AV.isUndef, Nat.reduceEqDiff, Nat.reduceAdd, Nat.reduceSub, Nat.reduceLeDiff, Nat.reduceLT, reduceIte, reduceCtorEq, Nat.reduceBEq, k_app, k_slc1]
  (repeat' (first | (simp (config := { maxDischargeDepth := 16 }) only [*, Job.a, vX, Int.reduceLE, Int.reduceLT, Int.reduceGE, Int.reduceGT, Int.reduceBEq, Int.reduceBNe, Int.reduceAdd, Int.reduceSub, Int.reduceMul, Int.reduceNeg, ↓vD, vU, ↓vMd, vMu, VE.ev, VE.evs, retvs, tupOf, grab, vfill, vbsl, eqCells, eqCell, veqs, veqs1, vmnx, AV.isCell, AV.isUndef, Nat.reduceEqDiff, Nat.reduceAdd, Nat.reduceSub, Nat.reduceLeDiff, Nat.reduceLT, reduceIte, reduceCtorEq, Nat.reduceBEq]) | (simp (disch := first | assumption | omega | exact Seg.len _ | exact Vec.len _ | exact Leg.len _ | exact num_len _ | exact rowA_len _ | exact rowA_len | exact rowT_len _ | exact rowT_len | exact Seg.len | exact Vec.len | exact Leg.len | exact num_len | exact AV.slen _ _ | rfl) only [Job.a, vP]) | (with_reducible (first | refine gsnd (fun _ => ?_) (fun _ => ?_) | refine csnd (fun _ => ?_) (fun _ => ?_) | refine gsd (fun _ => ?_) (fun _ => ?_) | refine csd (fun _ => ?_) (fun _ => ?_) | refine gsn (fun _ => ?_) (fun _ => ?_) | refine csn (fun _ => ?_) (fun _ => ?_))) | (with_reducible refine gs (fun _ => ?_) (fun _ => ?_)) | (with_reducible refine cs_ (fun _ => ?_) (fun _ => ?_)) | (with_reducible refine objQ_i (fun _ _ => ?_); (repeat (with_reducible refine imp_i (fun _ => ?_)))) | ((try with_reducible refine appK_a ?_); first | (with_reducible refine appD_F (by refine ⟨?_, ?_, ?_, ?_⟩ <;> (first | assumption | omega | exact St.has_add (by assumption) | (simp only [ins_has]; exact St.has_add (by assumption)) | (simp only [ins_has, fresh_ins, kill_ins, add_ins] at *; exact St.has_add (by assumption)) | (simp only [*, ins_has, has_full, St.has_add]; done) | (simp [-List.map_take, -List.map_drop, or_imp, forall_and, Seg.a, Vec.a, Leg.a, num, okEl, cells_agg, cells_int, cells_sl, cells_bool, AV.isCell]; done) | (simp; omega))) (fun _ _ => ?_)) | (with_reducible refine appD_V (by refine ⟨?_, ?_, ?_, ?_, ?_⟩ <;> (first | assumption | omega | exact St.has_add (by assumption) | (simp only [ins_has]; exact St.has_add (by assumption)) | (simp only [ins_has, fresh_ins, kill_ins, add_ins] at *; exact St.has_add (by assumption)) | (simp only [*, ins_has, has_full, St.has_add]; done) | (simp [-List.map_take, -List.map_drop, or_imp, forall_and, Seg.a, Vec.a, Leg.a, num, okEl, cells_agg, cells_int, cells_sl, cells_bool, AV.isCell]; done) | (simp; omega))) (fun _ _ => ?_))) | (with_reducible refine freshQ_i (fun _ _ => ?_)) | (with_reducible refine nilQ_i (fun _ _ => ?_))))
  refine loopp_of (len := 2) (by simp only [asgL, dsts, List.cons_append, List.nil_append, List.append_nil]; rfl) (by simp only [noR, Bool.and_true, Bool.and_false]; rfl) (by omega) (fun k fr => fr.t 11 = .int .i64 k ∧ Hid (0 < k → p = 0) ∧ Hid (1 < k → q = 0)) ?_ ?_ ?_
  · exact ⟨by simp [↓vD, vU, ↓vMd, vMu, VE.ev, VE.evs, retvs, tupOf, grab, vfill, vbsl, eqCells, eqCell, veqs, veqs1, vmnx, AV.isCell, AV.isUndef, Nat.reduceEqDiff, Nat.reduceAdd, Nat.reduceSub, Nat.reduceLeDiff, Nat.reduceLT, reduceIte, reduceCtorEq, Nat.reduceBEq, k_app, k_slc1], ⟨fun h => absurd h (by omega)⟩, ⟨fun h => absurd h (by omega)⟩⟩
  · rintro k fr hk hwk hfr hd ⟨h11, H1, H2⟩
    by_cases h0 : k = 0
    · subst h0
      by_cases hp : p = 0
      · subst hp
        (repeat' (first | (simp (config := { maxDischargeDepth := 16 }) only [*, Job.a, vX, Int.reduceLE, Int.reduceLT, Int.reduceGE, Int.reduceGT, Int.reduceBEq, Int.reduceBNe, Int.reduceAdd, Int.reduceSub, Int.reduceMul, Int.reduceNeg, ↓vD, vU, ↓vMd, vMu, VE.ev, VE.evs, retvs, tupOf, grab, vfill, vbsl, eqCells, eqCell, veqs, veqs1, vmnx, AV.isCell, AV.isUndef, Nat.reduceEqDiff, Nat.reduceAdd, Nat.reduceSub, Nat.reduceLeDiff, Nat.reduceLT, reduceIte, reduceCtorEq, Nat.reduceBEq]) | (simp (disch := first | assumption | omega | exact Seg.len _ | exact Vec.len _ | exact Leg.len _ | exact num_len _ | exact rowA_len _ | exact rowA_len | exact rowT_len _ | exact rowT_len | exact Seg.len | exact Vec.len | exact Leg.len | exact num_len | exact AV.slen _ _ | rfl) only [Job.a, vP]) | (with_reducible (first | refine gsnd (fun _ => ?_) (fun _ => ?_) | refine csnd (fun _ => ?_) (fun _ => ?_) | refine gsd (fun _ => ?_) (fun _ => ?_) | refine csd (fun _ => ?_) (fun _ => ?_) | refine gsn (fun _ => ?_) (fun _ => ?_) | refine csn (fun _ => ?_) (fun _ => ?_))) | (with_reducible refine gs (fun _ => ?_) (fun _ => ?_)) | (with_reducible refine cs_ (fun _ => ?_) (fun _ => ?_)) | (with_reducible refine objQ_i (fun _ _ => ?_); (repeat (with_reducible refine imp_i (fun _ => ?_)))) | ((try with_reducible refine appK_a ?_); first | (with_reducible refine appD_F (by refine ⟨?_, ?_, ?_, ?_⟩ <;> (first | assumption | omega | exact St.has_add (by assumption) | (simp only [ins_has]; exact St.has_add (by assumption)) | (simp only [ins_has, fresh_ins, kill_ins, add_ins] at *; exact St.has_add (by assumption)) | (simp only [*, ins_has, has_full, St.has_add]; done) | (simp [-List.map_take, -List.map_drop, or_imp, forall_and, Seg.a, Vec.a, Leg.a, num, okEl, cells_agg, cells_int, cells_sl, cells_bool, AV.isCell]; done) | (simp; omega))) (fun _ _ => ?_)) | (with_reducible refine appD_V (by refine ⟨?_, ?_, ?_, ?_, ?_⟩ <;> (first | assumption | omega | exact St.has_add (by assumption) | (simp only [ins_has]; exact St.has_add (by assumption)) | (simp only [ins_has, fresh_ins, kill_ins, add_ins] at *; exact St.has_add (by assumption)) | (simp only [*, ins_has, has_full, St.has_add]; done) | (simp [-List.map_take, -List.map_drop, or_imp, forall_and, Seg.a, Vec.a, Leg.a, num, okEl, cells_agg, cells_int, cells_sl, cells_bool, AV.isCell]; done) | (simp; omega))) (fun _ _ => ?_))) | (with_reducible refine freshQ_i (fun _ _ => ?_)) | (with_reducible refine nilQ_i (fun _ _ => ?_)) | (with_reducible first | refine callH_use (k1) ?_ | refine pureQ_use (k1) ?_) | (with_reducible first | refine callH_use (k2) ?_ | refine pureQ_use (k2) ?_) | (with_reducible first | refine callH_use (c1) ?_ | refine pureQ_use (c1) ?_)))
        exact ⟨⟨fun _ => trivial⟩, ⟨fun h => h.elim⟩⟩
      · obtain rfl : r = p := by rw [HC.out, if_neg hp]
        (repeat' (first | (simp (config := { maxDischargeDepth := 16 }) only [*, Job.a, vX, Int.reduceLE, Int.reduceLT, Int.reduceGE, Int.reduceGT, Int.reduceBEq, Int.reduceBNe, Int.reduceAdd, Int.reduceSub, Int.reduceMul, Int.reduceNeg, ↓vD, vU, ↓vMd, vMu, VE.ev, VE.evs, retvs, tupOf, grab, vfill, vbsl, eqCells, eqCell, veqs, veqs1, vmnx, AV.isCell, AV.isUndef, Nat.reduceEqDiff, Nat.reduceAdd, Nat.reduceSub, Nat.reduceLeDiff, Nat.reduceLT, reduceIte, reduceCtorEq, Nat.reduceBEq]) | (simp (disch := first | assumption | omega | exact Seg.len _ | exact Vec.len _ | exact Leg.len _ | exact num_len _ | exact rowA_len _ | exact rowA_len | exact rowT_len _ | exact rowT_len | exact Seg.len | exact Vec.len | exact Leg.len | exact num_len | exact AV.slen _ _ | rfl) only [Job.a, vP]) | (with_reducible (first | refine gsnd (fun _ => ?_) (fun _ => ?_) | refine csnd (fun _ => ?_) (fun _ => ?_) | refine gsd (fun _ => ?_) (fun _ => ?_) | refine csd (fun _ => ?_) (fun _ => ?_) | refine gsn (fun _ => ?_) (fun _ => ?_) | refine csn (fun _ => ?_) (fun _ => ?_))) | (with_reducible refine gs (fun _ => ?_) (fun _ => ?_)) | (with_reducible refine cs_ (fun _ => ?_) (fun _ => ?_)) | (with_reducible refine objQ_i (fun _ _ => ?_); (repeat (with_reducible refine imp_i (fun _ => ?_)))) | ((try with_reducible refine appK_a ?_); first | (with_reducible refine appD_F (by refine ⟨?_, ?_, ?_, ?_⟩ <;> (first | assumption | omega | exact St.has_add (by assumption) | (simp only [ins_has]; exact St.has_add (by assumption)) | (simp only [ins_has, fresh_ins, kill_ins, add_ins] at *; exact St.has_add (by assumption)) | (simp only [*, ins_has, has_full, St.has_add]; done) | (simp [-List.map_take, -List.map_drop, or_imp, forall_and, Seg.a, Vec.a, Leg.a, num, okEl, cells_agg, cells_int, cells_sl, cells_bool, AV.isCell]; done) | (simp; omega))) (fun _ _ => ?_)) | (with_reducible refine appD_V (by refine ⟨?_, ?_, ?_, ?_, ?_⟩ <;> (first | assumption | omega | exact St.has_add (by assumption) | (simp only [ins_has]; exact St.has_add (by assumption)) | (simp only [ins_has, fresh_ins, kill_ins, add_ins] at *; exact St.has_add (by assumption)) | (simp only [*, ins_has, has_full, St.has_add]; done) | (simp [-List.map_take, -List.map_drop, or_imp, forall_and, Seg.a, Vec.a, Leg.a, num, okEl, cells_agg, cells_int, cells_sl, cells_bool, AV.isCell]; done) | (simp; omega))) (fun _ _ => ?_))) | (with_reducible refine freshQ_i (fun _ _ => ?_)) | (with_reducible refine nilQ_i (fun _ _ => ?_)) | (with_reducible first | refine callH_use (k1) ?_ | refine pureQ_use (k1) ?_) | (with_reducible first | refine callH_use (k2) ?_ | refine pureQ_use (k2) ?_) | (with_reducible first | refine callH_use (c1) ?_ | refine pureQ_use (c1) ?_)))
    · obtain rfl : k = 1 := by omega
      obtain rfl : p = 0 := H1.out (by omega)
      obtain rfl : r = q := by rw [HC.out, if_pos rfl]
      by_cases hq : r = 0
      · subst hq
        (repeat' (first | (simp (config := { maxDischargeDepth := 16 }) only [*, Job.a, vX, Int.reduceLE, Int.reduceLT, Int.reduceGE, Int.reduceGT, Int.reduceBEq, Int.reduceBNe, Int.reduceAdd, Int.reduceSub, Int.reduceMul, Int.reduceNeg, ↓vD, vU, ↓vMd, vMu, VE.ev, VE.evs, retvs, tupOf, grab, vfill, vbsl, eqCells, eqCell, veqs, veqs1, vmnx, AV.isCell, AV.isUndef, Nat.reduceEqDiff, Nat.reduceAdd, Nat.reduceSub, Nat.reduceLeDiff, Nat.reduceLT, reduceIte, reduceCtorEq, Nat.reduceBEq]) | (simp (disch := first | assumption | omega | exact Seg.len _ | exact Vec.len _ | exact Leg.len _ | exact num_len _ | exact rowA_len _ | exact rowA_len | exact rowT_len _ | exact rowT_len | exact Seg.len | exact Vec.len | exact Leg.len | exact num_len | exact AV.slen _ _ | rfl) only [Job.a, vP]) | (with_reducible (first | refine gsnd (fun _ => ?_) (fun _ => ?_) | refine csnd (fun _ => ?_) (fun _ => ?_) | refine gsd (fun _ => ?_) (fun _ => ?_) | refine csd (fun _ => ?_) (fun _ => ?_) | refine gsn (fun _ => ?_) (fun _ => ?_) | refine csn (fun _ => ?_) (fun _ => ?_))) | (with_reducible refine gs (fun _ => ?_) (fun _ => ?_)) | (with_reducible refine cs_ (fun _ => ?_) (fun _ => ?_)) | (with_reducible refine objQ_i (fun _ _ => ?_); (repeat (with_reducible refine imp_i (fun _ => ?_)))) | ((try with_reducible refine appK_a ?_); first | (with_reducible refine appD_F (by refine ⟨?_, ?_, ?_, ?_⟩ <;> (first | assumption | omega | exact St.has_add (by assumption) | (simp only [ins_has]; exact St.has_add (by assumption)) | (simp only [ins_has, fresh_ins, kill_ins, add_ins] at *; exact St.has_add (by assumption)) | (simp only [*, ins_has, has_full, St.has_add]; done) | (simp [-List.map_take, -List.map_drop, or_imp, forall_and, Seg.a, Vec.a, Leg.a, num, okEl, cells_agg, cells_int, cells_sl, cells_bool, AV.isCell]; done) | (simp; omega))) (fun _ _ => ?_)) | (with_reducible refine appD_V (by refine ⟨?_, ?_, ?_, ?_, ?_⟩ <;> (first | assumption | omega | exact St.has_add (by assumption) | (simp only [ins_has]; exact St.has_add (by assumption)) | (simp only [ins_has, fresh_ins, kill_ins, add_ins] at *; exact St.has_add (by assumption)) | (simp only [*, ins_has, has_full, St.has_add]; done) | (simp [-List.map_take, -List.map_drop, or_imp, forall_and, Seg.a, Vec.a, Leg.a, num, okEl, cells_agg, cells_int, cells_sl, cells_bool, AV.isCell]; done) | (simp; omega))) (fun _ _ => ?_))) | (with_reducible refine freshQ_i (fun _ _ => ?_)) | (with_reducible refine nilQ_i (fun _ _ => ?_)) | (with_reducible first | refine callH_use (k3) ?_ | refine pureQ_use (k3) ?_) | (with_reducible first | refine callH_use (k4) ?_ | refine pureQ_use (k4) ?_) | (with_reducible first | refine callH_use (c2) ?_ | refine pureQ_use (c2) ?_)))
        exact ⟨⟨fun _ => trivial⟩, ⟨fun _ => trivial⟩⟩
      · (repeat' (first | (simp (config := { maxDischargeDepth := 16 }) only [*, Job.a, vX, Int.reduceLE, Int.reduceLT, Int.reduceGE, Int.reduceGT, Int.reduceBEq, Int.reduceBNe, Int.reduceAdd, Int.reduceSub, Int.reduceMul, Int.reduceNeg, ↓vD, vU, ↓vMd, vMu, VE.ev, VE.evs, retvs, tupOf, grab, vfill, vbsl, eqCells, eqCell, veqs, veqs1, vmnx, AV.isCell, AV.isUndef, Nat.reduceEqDiff, Nat.reduceAdd, Nat.reduceSub, Nat.reduceLeDiff, Nat.reduceLT, reduceIte, reduceCtorEq, Nat.reduceBEq]) | (simp (disch := first | assumption | omega | exact Seg.len _ | exact Vec.len _ | exact Leg.len _ | exact num_len _ | exact rowA_len _ | exact rowA_len | exact rowT_len _ | exact rowT_len | exact Seg.len | exact Vec.len | exact Leg.len | exact num_len | exact AV.slen _ _ | rfl) only [Job.a, vP]) | (with_reducible (first | refine gsnd (fun _ => ?_) (fun _ => ?_) | refine csnd (fun _ => ?_) (fun _ => ?_) | refine gsd (fun _ => ?_) (fun _ => ?_) | refine csd (fun _ => ?_) (fun _ => ?_) | refine gsn (fun _ => ?_) (fun _ => ?_) | refine csn (fun _ => ?_) (fun _ => ?_))) | (with_reducible refine gs (fun _ => ?_) (fun _ => ?_)) | (with_reducible refine cs_ (fun _ => ?_) (fun _ => ?_)) | (with_reducible refine objQ_i (fun _ _ => ?_); (repeat (with_reducible refine imp_i (fun _ => ?_)))) | ((try with_reducible refine appK_a ?_); first | (with_reducible refine appD_F (by refine ⟨?_, ?_, ?_, ?_⟩ <;> (first | assumption | omega | exact St.has_add (by assumption) | (simp only [ins_has]; exact St.has_add (by assumption)) | (simp only [ins_has, fresh_ins, kill_ins, add_ins] at *; exact St.has_add (by assumption)) | (simp only [*, ins_has, has_full, St.has_add]; done) | (simp [-List.map_take, -List.map_drop, or_imp, forall_and, Seg.a, Vec.a, Leg.a, num, okEl, cells_agg, cells_int, cells_sl, cells_bool, AV.isCell]; done) | (simp; omega))) (fun _ _ => ?_)) | (with_reducible refine appD_V (by refine ⟨?_, ?_, ?_, ?_, ?_⟩ <;> (first | assumption | omega | exact St.has_add (by assumption) | (simp only [ins_has]; exact St.has_add (by assumption)) | (simp only [ins_has, fresh_ins, kill_ins, add_ins] at *; exact St.has_add (by assumption)) | (simp only [*, ins_has, has_full, St.has_add]; done) | (simp [-List.map_take, -List.map_drop, or_imp, forall_and, Seg.a, Vec.a, Leg.a, num, okEl, cells_agg, cells_int, cells_sl, cells_bool, AV.isCell]; done) | (simp; omega))) (fun _ _ => ?_))) | (with_reducible refine freshQ_i (fun _ _ => ?_)) | (with_reducible refine nilQ_i (fun _ _ => ?_)) | (with_reducible first | refine callH_use (k3) ?_ | refine pureQ_use (k3) ?_) | (with_reducible first | refine callH_use (k4) ?_ | refine pureQ_use (k4) ?_) | (with_reducible first | refine callH_use (c2) ?_ | refine pureQ_use (c2) ?_)))
  · rintro fr hfr hd ⟨h11, H1, H2⟩
    obtain rfl : p = 0 := H1.out (by omega)
    obtain rfl : q = 0 := H2.out (by omega)
    obtain rfl : r = 0 := by rw [HC.out, if_pos rfl]
    (repeat' (first | (simp (config := { maxDischargeDepth := 16 }) only [*, Job.a, vX, Int.reduceLE, Int.reduceLT, Int.reduceGE, Int.reduceGT, Int.reduceBEq, Int.reduceBNe, Int.reduceAdd, Int.reduceSub, Int.reduceMul, Int.reduceNeg, ↓vD, vU, ↓vMd, vMu, VE.ev, VE.evs, retvs, tupOf, grab, vfill, vbsl, eqCells, eqCell, veqs, veqs1, vmnx, AV.isCell, AV.isUndef, Nat.reduceEqDiff, Nat.reduceAdd, Nat.reduceSub, Nat.reduceLeDiff, Nat.reduceLT, reduceIte, reduceCtorEq, Nat.reduceBEq]) | (simp (disch := first | assumption | omega | exact Seg.len _ | exact Vec.len _ | exact Leg.len _ | exact num_len _ | exact rowA_len _ | exact rowA_len | exact rowT_len _ | exact rowT_len | exact Seg.len | exact Vec.len | exact Leg.len | exact num_len | exact AV.slen _ _ | rfl) only [Job.a, vP]) | (with_reducible (first | refine gsnd (fun _ => ?_) (fun _ => ?_) | refine csnd (fun _ => ?_) (fun _ => ?_) | refine gsd (fun _ => ?_) (fun _ => ?_) | refine csd (fun _ => ?_) (fun _ => ?_) | refine gsn (fun _ => ?_) (fun _ => ?_) | refine csn (fun _ => ?_) (fun _ => ?_))) | (with_reducible refine gs (fun _ => ?_) (fun _ => ?_)) | (with_reducible refine cs_ (fun _ => ?_) (fun _ => ?_)) | (with_reducible refine objQ_i (fun _ _ => ?_); (repeat (with_reducible refine imp_i (fun _ => ?_)))) | ((try with_reducible refine appK_a ?_); first | (with_reducible refine appD_F (by refine ⟨?_, ?_, ?_, ?_⟩ <;> (first | assumption | omega | exact St.has_add (by assumption) | (simp only [ins_has]; exact St.has_add (by assumption)) | (simp only [ins_has, fresh_ins, kill_ins, add_ins] at *; exact St.has_add (by assumption)) | (simp only [*, ins_has, has_full, St.has_add]; done) | (simp [-List.map_take, -List.map_drop, or_imp, forall_and, Seg.a, Vec.a, Leg.a, num, okEl, cells_agg, cells_int, cells_sl, cells_bool, AV.isCell]; done) | (simp; omega))) (fun _ _ => ?_)) | (with_reducible refine appD_V (by refine ⟨?_, ?_, ?_, ?_, ?_⟩ <;> (first | assumption | omega | exact St.has_add (by assumption) | (simp only [ins_has]; exact St.has_add (by assumption)) | (simp only [ins_has, fresh_ins, kill_ins, add_ins] at *; exact St.has_add (by assumption)) | (simp only [*, ins_has, has_full, St.has_add]; done) | (simp [-List.map_take, -List.map_drop, or_imp, forall_and, Seg.a, Vec.a, Leg.a, num, okEl, cells_agg, cells_int, cells_sl, cells_bool, AV.isCell]; done) | (simp; omega))) (fun _ _ => ?_))) | (with_reducible refine freshQ_i (fun _ _ => ?_)) | (with_reducible refine nilQ_i (fun _ _ => ?_))))
end Go.Proofs.Ytglekfgoadehbaa.V
end
section
/- slices.DeleteFunc at Job. -/
namespace Go.Proofs.Ytglekfgoadehbaa.V
open Go Go.Proofs Go.Proofs.Ytglekfgoadehbaa.SP
set_option maxRecDepth 100000
set_option maxHeartbeats 4000000
theorem idx_spec (g : Nat → Bool) (n : Nat) : (idxI g n = -1 ∧ ∀ j, j < n → g j = false) ∨ ∃ i, i < n ∧ idxI g n = i ∧ g i = true ∧ ∀ j, j < i → g j = false := by
  unfold idxI
  cases h : (List.range n).find? g with
  | none => exact .inl ⟨rfl, fun j hj => by have := List.find?_eq_none.1 h j (List.mem_range.2 hj); simpa using this⟩
  | some k =>
    obtain ⟨h1, h2, h3⟩ := List.find?_range_eq_some.1 h
    exact .inr ⟨k, List.mem_range.1 h2, rfl, h1, fun j hj => by simpa using h3 j hj⟩
theorem getD_at (xs : List Job) {k : Nat} (h : k < xs.length) : xs.getD k default = xs[k] := by simp [List.getD_eq_getElem?_getD, List.getElem?_eq_getElem h]
theorem filter_all (xs : List Job) (g : Job → Bool) (h : ∀ j, j < xs.length → g (xs.getD j default) = false) : xs.filter (fun x => !g x) = xs := by
  rw [List.filter_eq_self]
  intro x hx
  obtain ⟨j, hj, rfl⟩ := List.getElem_of_mem hx
  have := h j hj
  rw [getD_at xs hj] at this
  simp [this]
theorem filter_take (xs : List Job) (g : Job → Bool) (k : Nat) (h : ∀ j, j < k → j < xs.length → g (xs.getD j default) = false) : (xs.take k).filter (fun x => !g x) = xs.take k := by
  refine filter_all _ g (fun j hj => ?_)
  rw [List.length_take] at hj
  have := h j (by omega) (by omega)
  rw [getD_at xs (by omega)] at this
  rw [getD_at _ (by rw [List.length_take]; omega), List.getElem_take]
  exact this
theorem filter_next (xs : List Job) (g : Job → Bool) {k : Nat} (h : k < xs.length) : (xs.take (k + 1)).filter (fun x => !g x) = (xs.take k).filter (fun x => !g x) ++ (if g (xs.getD k default) then [] else [xs.getD k default]) := by
  rw [List.take_add_one, List.getElem?_eq_getElem h, getD_at xs h, List.filter_append]
  simp only [Option.toList_some, List.filter_cons, List.filter_nil]
  cases g xs[k] <;> simp
structure MidJ (xs : List Job) (g : Job → Bool) (j : Nat) (m : Nat) (ys : List Job) : Prop where
  eq : ∃ junk : List Job, ys = (xs.take j).filter (fun x => !g x) ++ (junk ++ xs.drop j)
  cnt : m = ((xs.take j).filter (fun x => !g x)).length
  lt : m < j
  len : ys.length = xs.length
theorem MidJ.at {xs : List Job} {g : Job → Bool} {j m : Nat} {ys : List Job} (h : MidJ xs g j m ys) (hj : j < xs.length) : ys.getD j default = xs.getD j default := by
  obtain ⟨junk, e⟩ := h.eq
  have hl := h.len
  have hc := h.cnt
  rw [e, List.length_append, List.length_append, List.length_drop] at hl
  rw [e, List.getD_eq_getElem?_getD, List.getD_eq_getElem?_getD, List.getElem?_append_right (by omega), List.getElem?_append_right (by omega), List.getElem?_drop]
  congr 2
  omega
theorem MidJ.skip {xs : List Job} {g : Job → Bool} {j m : Nat} {ys : List Job} (h : MidJ xs g j m ys) (hj : j < xs.length) (hg : g (xs.getD j default) = true) : MidJ xs g (j + 1) m ys := by
  obtain ⟨junk, e⟩ := h.eq
  have hn := filter_next xs g hj
  rw [hg, if_pos rfl, List.append_nil] at hn
  refine ⟨⟨junk ++ [xs[j]], ?_⟩, by rw [hn]; exact h.cnt, by have := h.lt; omega, h.len⟩
  rw [hn, e, List.drop_eq_getElem_cons hj]; simp
theorem MidJ.keep {xs : List Job} {g : Job → Bool} {j m : Nat} {ys : List Job} (h : MidJ xs g j m ys) (hj : j < xs.length) (hg : g (xs.getD j default) = false) : MidJ xs g (j + 1) (m + 1) (ys.set m (xs.getD j default)) := by
  obtain ⟨junk, e⟩ := h.eq
  have hn := filter_next xs g hj
  rw [hg, if_neg (by simp)] at hn
  have hl := h.len
  have hc := h.cnt
  have hlt := h.lt
  have hl2 := hl
  rw [e, List.length_append, List.length_append, List.length_drop] at hl2
  refine ⟨?_, by rw [hn, List.length_append]; simp [hc], by omega, by rw [List.length_set]; exact hl⟩
  cases junk with
  | nil => simp at hl2; omega
  | cons z r =>
    refine ⟨r ++ [xs[j]], ?_⟩
    rw [hn, e, List.drop_eq_getElem_cons hj, List.set_append_right _ _ (by omega), hc, Nat.sub_self, List.cons_append, List.set_cons_zero]
    simp
theorem DeleteJob_v {Z : Im} {f : Nat} {fs cs : List AV} (xs : List Job) (hn : xs.length ≤ 1000000000) (g : Job → Bool) (hg : ∀ x : Job, VPure Try.prog f (fs ++ [x.a] ++ cs) (.bool (g x))) (st : St) (b n c : Nat) (hl : n = xs.length) (hc : xs.length ≤ c) (rest : List AV) :
    VCalls Try.prog Z 56 [.osl b n c, .clo f fs cs] (ob st b Job.a rest xs) (fun r s => ∃ rest', r = .osl b (xs.filter fun x => !g x).length c ∧ s = ob st b Job.a rest' (xs.filter fun x => !g x)) := by
  have hI := IndexJob_v (Z := Z) xs hn g hg st b n c hl rest
  have hlen : ∀ (b n c : Nat), vlen (.osl b n c) = some (.int .i64 n) := fun _ _ _ => rfl
  have hsp := idx_spec (fun k => g (xs.getD k default)) xs.length
  obtain ⟨I, hII⟩ : ∃ I, idxI (fun k => g (xs.getD k default)) xs.length = I := ⟨_, rfl⟩
  rw [hII] at hI hsp
  clear hII
  subst hl
  refine VCalls.of v_slices_DeleteFunc_api_Job_api_Job_ok (Nat.le_of_ble_eq_true rfl) ?_
  simp only [v_slices_DeleteFunc_api_Job_api_Job, ↓vD, vU, ↓vMd, vMu, vZ, seval, k_app, k_slc1]
  (repeat' (first | (simp (maxDischargeDepth := 16) only [*, vX, ↓vD, vU, ↓vMd, vMu, vZ, seval]) | (simp (disch := first | assumption | omega | rfl | exact fun _ => rfl) only [vP]) | ((with_reducible first | apply gsnd | apply csnd | apply gsd | apply csd | apply gsn | apply csn | apply gs | apply cs_) <;> intro _) | (with_reducible refine objQ_i (fun _ _ => ?_); repeat with_reducible refine imp_i (fun _ => ?_))))
  refine callH_then hI ?_
  rintro _ _ ⟨rfl, rfl⟩
  clear hI
  rcases hsp with ⟨rfl, hall⟩ | ⟨i, hi, rfl, hgi, hno⟩
  · have HF := Hid.mk (filter_all xs g hall)
    clear hall
    (repeat' (first | (simp (maxDischargeDepth := 16) only [*, vX, ↓vD, vU, ↓vMd, vMu, vZ, seval]) | (simp (disch := first | assumption | omega | rfl | exact fun _ => rfl) only [vP]) | ((with_reducible first | apply gsnd | apply csnd | apply gsd | apply csd | apply gsn | apply csn | apply gs | apply cs_) <;> intro _) | (with_reducible refine objQ_i (fun _ _ => ?_); repeat with_reducible refine imp_i (fun _ => ?_))))
    exact ⟨_, St.le.refl _, rest, by rw [HF.out], by rw [HF.out]⟩
  have hm0 : MidJ xs g (i + 1) i xs := by
    have h1 := filter_next xs g hi
    rw [hgi, if_pos rfl, List.append_nil, filter_take xs g i (fun j hj _ => hno j hj)] at h1
    refine ⟨⟨[xs[i]], ?_⟩, by rw [h1, List.length_take]; omega, by omega, rfl⟩
    rw [h1]
    have : xs.take i ++ ([xs[i]] ++ xs.drop (i + 1)) = xs := by
      rw [List.singleton_append, ← List.drop_eq_getElem_cons hi, List.take_append_drop]
    exact this.symm
  have HM := Hid.mk hm0
  clear hgi hno hm0
  have hw1 : IntKind.i64.wrap ((i : Int) + 1) = (i : Int) + 1 := wrap_i64 _ (by omega) (by omega)
  have hi1 : ¬ ((i : Int) = -1) := by omega
  (repeat' (first | (simp (maxDischargeDepth := 16) only [*, vX, ↓vD, vU, ↓vMd, vMu, vZ, seval]) | (simp (disch := first | assumption | omega | rfl | exact fun _ => rfl) only [vP]) | ((with_reducible first | apply gsnd | apply csnd | apply gsd | apply csd | apply gsn | apply csn | apply gs | apply cs_) <;> intro _) | (with_reducible refine objQ_i (fun _ _ => ?_); repeat with_reducible refine imp_i (fun _ => ?_))))
  refine loopf_of (len := xs.length - (i + 1)) (by simp only [asgL, dsts, List.cons_append, List.nil_append, List.append_nil]; rfl) (by simp only [noR, Bool.and_true, Bool.and_false]; rfl) (by omega) (fun k fr s => ∃ (m : Nat) (ys : List Job), s = ob st b Job.a rest ys ∧ fr.t 6 = .int .i64 ((i + 1 + k : Nat) : Int) ∧ fr.t 5 = .int .i64 (m : Int) ∧ Hid (MidJ xs g (i + 1 + k) m ys)) ?_ ?_ ?_
  · refine ⟨i, xs, rfl, ?_, ?_, ?_⟩
    · simp [↓vD, vU, ↓vMd, vMu, vZ, seval, k_app, k_slc1]
    · simp [↓vD, vU, ↓vMd, vMu, vZ, seval, k_app, k_slc1]
    · exact ⟨HM.out⟩
  · clear HM
    rintro k fr s hk hw hf hd ⟨m, ys, rfl, h6, h5, HM⟩
    obtain ⟨j, hj⟩ : ∃ j, i + 1 + k = j := ⟨_, rfl⟩
    have hjn : i + 1 + (k + 1) = j + 1 := by omega
    rw [hjn]
    rw [hj] at h6 HM
    have hjx : j < xs.length := by omega
    have hwj : IntKind.i64.wrap ((j : Int) + 1) = (j : Int) + 1 := wrap_i64 _ (by omega) (by omega)
    have hcast : ((j + 1 : Nat) : Int) = (j : Int) + 1 := by omega
    have hmj := HM.out.lt
    have hyl := HM.out.len
    have hat := HM.out.at hjx
    have hiad := ob_iad b xs.length c .i64 j 5 hjx
    have hiad2 := ob_iad b xs.length c .i64 m 5 (by omega)
    have hL := SoJob.ld Job.a Job.ok Job.ag st b rest ys j (by omega)
    rw [hat] at hL
    obtain ⟨x, hx⟩ : ∃ x, xs.getD j default = x := ⟨_, rfl⟩
    rw [hx] at hL
    have hgx := hg x
    have hskip := HM.out.skip hjx
    have hkeep := HM.out.keep hjx
    rw [hx] at hskip hkeep
    obtain ⟨y, hy⟩ : ∃ y, g x = y := ⟨_, rfl⟩
    rw [hy] at hgx hskip hkeep
    obtain ⟨S, hS⟩ : ∃ S, ob st b Job.a rest ys = S := ⟨_, rfl⟩
    have hSb : S.objs b = some (.cells (fl Job.a ys ++ rest)) := by rw [← hS]; exact ob_objs ..
    obtain ⟨C, hC⟩ : ∃ C, fl Job.a ys ++ rest = C := ⟨_, rfl⟩
    have hCl : m * 5 + 5 ≤ C.length := by
      rw [← hC, List.length_append, fl_len Job.a 5 Job.ok]
      have : (m + 1) * 5 ≤ ys.length * 5 := Nat.mul_le_mul_right _ (by omega)
      omega
    have HC : Hid (C.take (m * 5) ++ x.a.cells ++ C.drop (m * 5 + 5) = fl Job.a (ys.set m x) ++ rest) := ⟨by
      obtain ⟨e1, _, e3⟩ := fl_at Job.a 5 Job.ok ys rest m (by omega)
      have : ys.set m x = ys.take m ++ x :: ys.drop (m + 1) := by rw [List.set_eq_take_append_cons_drop, if_pos (by omega)]
      rw [← hC, e1, e3, this, fl_app, fl_cons]; simp⟩
    have HS := Hid.mk hS
    rw [hS] at hL
    rw [hC] at hSb
    simp only [Job.a] at hgx hL HC
    simp only [cells_agg] at HC
    rw [hS]
    clear hS hC hx hat hg HM hjn hj
    cases y
    · have HK := Hid.mk (hkeep rfl)
      clear hkeep hskip hy
      (repeat' (first | (simp (maxDischargeDepth := 16) only [*, Job.a, vX, ↓vD, vU, ↓vMd, vMu, vZ, seval]) | (simp (disch := first | assumption | omega | rfl | exact fun _ => rfl) only [Job.a, vP]) | ((with_reducible first | apply gsnd | apply csnd | apply gsd | apply csd | apply gsn | apply csn | apply gs | apply cs_) <;> intro _) | (with_reducible refine objQ_i (fun _ _ => ?_); repeat with_reducible refine imp_i (fun _ => ?_)) | (with_reducible first | refine callH_use (hgx) ?_ | refine pureQ_use (hgx) ?_)))
      rename_i b7 h7
      have n7 : ¬ b = b7 := fun e => by subst e; rw [hSb] at h7; cases h7
      have n7' : ¬ b7 = b := fun e => n7 e.symm
      (repeat' (first | (simp (maxDischargeDepth := 16) only [*, Job.a, vX, ↓vD, vU, ↓vMd, vMu, vZ, seval]) | (simp (disch := first | assumption | omega | rfl | exact fun _ => rfl) only [Job.a, vP]) | ((with_reducible first | apply gsnd | apply csnd | apply gsd | apply csd | apply gsn | apply csn | apply gs | apply cs_) <;> intro _) | (with_reducible refine objQ_i (fun _ _ => ?_); repeat with_reducible refine imp_i (fun _ => ?_))))
      refine ⟨ob st b Job.a rest (ys.set m x), ?_, m + 1, _, rfl, by omega, HK⟩
      rw [HC.out, show ob st b Job.a rest (ys.set m x) = S.ins b (.cells (fl Job.a (ys.set m x) ++ rest)) by rw [← HS.out, ob_ins]; rfl]
      (refine ⟨fun i o e => ?_, fun _ h => h⟩; revert e; simp only [St.ins, St.del, add_objs, kill_objs]; (repeat' split); all_goals (first | exact id | (intros; contradiction) | (intros; subst_vars; contradiction) | (intros; simp_all; done) | (intros; subst_vars; simp_all; done)))
    · have HK := Hid.mk (hskip rfl)
      clear hkeep hskip hy
      (repeat' (first | (simp (maxDischargeDepth := 16) only [*, Job.a, vX, ↓vD, vU, ↓vMd, vMu, vZ, seval]) | (simp (disch := first | assumption | omega | rfl | exact fun _ => rfl) only [Job.a, vP]) | ((with_reducible first | apply gsnd | apply csnd | apply gsd | apply csd | apply gsn | apply csn | apply gs | apply cs_) <;> intro _) | (with_reducible refine objQ_i (fun _ _ => ?_); repeat with_reducible refine imp_i (fun _ => ?_)) | (with_reducible first | refine callH_use (hgx) ?_ | refine pureQ_use (hgx) ?_)))
      rename_i b7 h7
      exact ⟨S, by (refine ⟨fun i o e => ?_, fun _ h => h⟩; revert e; simp only [St.ins, St.del, add_objs, kill_objs]; (repeat' split); all_goals (first | exact id | (intros; contradiction) | (intros; subst_vars; contradiction) | (intros; simp_all; done) | (intros; subst_vars; simp_all; done))), m, ys, HS.out.symm, rfl, HK⟩
  · rintro fr s hf hd ⟨m, ys, rfl, h6, h5, HM⟩
    rw [show i + 1 + (xs.length - (i + 1)) = xs.length by omega] at h6 HM
    have hmj := HM.out.lt
    have hcnt := HM.out.cnt
    have hyl := HM.out.len
    obtain ⟨junk, he⟩ := HM.out.eq
    rw [List.take_length] at hcnt he
    rw [List.drop_length, List.append_nil] at he
    obtain ⟨F, hF⟩ : ∃ F, xs.filter (fun x => !g x) = F := ⟨_, rfl⟩
    rw [hF] at hcnt he
    obtain ⟨S, hS⟩ : ∃ S, ob st b Job.a rest ys = S := ⟨_, rfl⟩
    obtain ⟨C, hC⟩ : ∃ C, fl Job.a F ++ (fl Job.a junk ++ rest) = C := ⟨_, rfl⟩
    have hSb : S.objs b = some (.cells C) := by rw [← hS, ob_objs, he, fl_app, ← hC, List.append_assoc]
    have hjl : m + junk.length = xs.length := by rw [he, List.length_append, ← hcnt] at hyl; exact hyl
    have hfl : (fl Job.a F).length = m * 5 := by rw [fl_len Job.a 5 Job.ok, ← hcnt]
    have hCl : m * 5 + (xs.length - m) * 5 ≤ C.length := by
      rw [← hC, List.length_append, List.length_append, hfl, fl_len Job.a 5 Job.ok, show xs.length - m = junk.length by omega]; omega
    have HC : Hid (C.take (m * 5) ++ List.replicate ((xs.length - m) * 5) .undef ++ C.drop (m * 5 + (xs.length - m) * 5) = fl Job.a F ++ (List.replicate ((xs.length - m) * 5) .undef ++ rest)) := ⟨by
      rw [← hC, ← hfl, List.take_left, hfl, ← List.drop_drop, ← hfl, List.drop_left]
      have : (xs.length - m) * 5 = (fl Job.a junk).length := by rw [fl_len Job.a 5 Job.ok, show xs.length - m = junk.length by omega]
      rw [this, List.drop_left, List.append_assoc]⟩
    have HS := Hid.mk hS
    rw [hS]
    have hcl : (xs.length : Int) ≤ c := by omega
    have hml : (m : Int) < xs.length := by omega
    have HF := Hid.mk hF
    have HN := Hid.mk hcnt
    clear hS hC hF hcnt he hfl hjl hyl HM hg
    rw [HF.out, ← HN.out]
    have hfin : ∀ S2 : St, S2 = S.ins b (.cells (fl Job.a F ++ (List.replicate ((xs.length - m) * 5) .undef ++ rest))) → ∃ rest', S2 = ob st b Job.a rest' F := fun S2 h => ⟨List.replicate ((xs.length - m) * 5) .undef ++ rest, by rw [h, ← HS.out, ob_ins]; rfl⟩
    have HE := Hid.mk hfin
    clear hfin
    by_cases h0 : m = 0
    · subst h0
      have hcut : vslx 5 (.osl b xs.length c) (some (.int .i64 0)) none none = some (.osl b xs.length c) := by
        simp only [vslx, oslc, bnd]
        rw [if_pos ⟨by omega, by omega, by omega, by omega, by omega, .inl trivial, by simp⟩]; simp
      simp only [Nat.zero_mul, Nat.sub_zero, Nat.zero_add, List.take_zero, List.nil_append] at HC hCl HE
      (repeat' (first | (simp (maxDischargeDepth := 16) only [*, vX, ↓vD, vU, ↓vMd, vMu, vZ, seval]) | (simp (disch := first | assumption | omega | rfl | exact fun _ => rfl) only [vP]) | ((with_reducible first | apply gsnd | apply csnd | apply gsd | apply csd | apply gsn | apply csn | apply gs | apply cs_) <;> intro _) | (with_reducible refine objQ_i (fun _ _ => ?_); repeat with_reducible refine imp_i (fun _ => ?_))))
      exact ⟨_, St.le.refl _, HE.out _ (by rw [HC.out])⟩
    · have hm0 : (0 : Int) < (m : Int) := by omega
      (repeat' (first | (simp (maxDischargeDepth := 16) only [*, vX, ↓vD, vU, ↓vMd, vMu, vZ, seval]) | (simp (disch := first | assumption | omega | rfl | exact fun _ => rfl) only [vP]) | ((with_reducible first | apply gsnd | apply csnd | apply gsd | apply csd | apply gsn | apply csn | apply gs | apply cs_) <;> intro _) | (with_reducible refine objQ_i (fun _ _ => ?_); repeat with_reducible refine imp_i (fun _ => ?_))))
      exact ⟨_, St.le.refl _, HE.out _ (by rw [HC.out])⟩
theorem del_insJ (st : St) (b : Nat) (o : AObj) : (st.del b).ins b o = st.ins b o := by
  cases st; simp only [St.ins, St.del, St.mk.injEq, and_true]; funext i; split <;> rfl
theorem IndexNil_v (t : Tok) (cl : AV) : VPure Try.prog 87 [.sl [] t, cl] (.int .i64 (-1)) := by
  refine VPure.of v_slices_IndexFunc_api_Job_api_Job_ok (Nat.le_of_ble_eq_true rfl) (fun Z st => ?_)
  simp only [v_slices_IndexFunc_api_Job_api_Job, ↓vD, vU, ↓vMd, vMu, vZ, seval, k_app, k_slc1]
  refine loop_out ?_
  (repeat' (first | (simp (maxDischargeDepth := 16) only [*, vX, ↓vD, vU, ↓vMd, vMu, vZ, seval]) | (simp (disch := first | assumption | omega | rfl | exact fun _ => rfl) only [vP]) | ((with_reducible first | apply gsnd | apply csnd | apply gsd | apply csd | apply gsn | apply csn | apply gs | apply cs_) <;> intro _)))
theorem DeleteNil_v (t : Tok) (cl : AV) : VPure Try.prog 56 [.sl [] t, cl] (.sl [] t) := by
  refine VPure.of v_slices_DeleteFunc_api_Job_api_Job_ok (Nat.le_of_ble_eq_true rfl) (fun Z st => ?_)
  simp only [v_slices_DeleteFunc_api_Job_api_Job, ↓vD, vU, ↓vMd, vMu, vZ, seval, k_app, k_slc1]
  (repeat' (first | (simp (maxDischargeDepth := 16) only [*, vX, ↓vD, vU, ↓vMd, vMu, vZ, seval]) | (simp (disch := first | assumption | omega | rfl | exact fun _ => rfl) only [vP]) | ((with_reducible first | apply gsnd | apply csnd | apply gsd | apply csd | apply gsn | apply csn | apply gs | apply cs_) <;> intro _) | (with_reducible refine objQ_i (fun _ _ => ?_); repeat with_reducible refine imp_i (fun _ => ?_)) | (with_reducible first | refine callH_use (IndexNil_v _ _) ?_ | refine pureQ_use (IndexNil_v _ _) ?_)))
theorem running_c {Z : Im} {st : St} (l : List Job) (hl : l.length ≤ 1000000000) (t : Tok) : VCalls Try.prog Z 34 [.sl (l.map Job.a) t] st (fun r s => r = .sl ((runJ l).map Job.a) .no ∧ s = st) := by
  have hC := fun st => Hid.mk (CloneJob_v (Z := Z) l hl t st)
  have hD := fun st b c h1 rest => Hid.mk (DeleteJob_v (Z := Z) (f := 58) (fs := []) (cs := []) l hl (fun x => !runsJ x) runs_v st b l.length c rfl h1 rest)
  have hB := by_c
  have hcmp := fun x y => by1_v x y
  unfold keysA at hB hcmp
  simp only [Bool.not_not] at hD
  refine (VCalls.of (K := fun r s => (l = [] ∧ ∃ t, r = .sl [] t ∧ st.le s) ∨ ∃ S b c rest, S.objs b = none ∧ st.le S ∧ r = .osl b (l.filter runsJ).length c ∧ s = ob S b Job.a rest (runJ l)) v_preempt_running_ok (Nat.le_of_ble_eq_true rfl) ?_).wk ?_
  · simp only [v_preempt_running, ↓vD, vU, ↓vMd, vMu, vZ, seval, k_app, k_slc1]
    (repeat' (first | (simp (maxDischargeDepth := 16) only [*, vX, ↓vD, vU, ↓vMd, vMu, vZ, seval]) | (simp (disch := first | assumption | omega | rfl | exact fun _ => rfl) only [vP]) | ((with_reducible first | apply gsnd | apply csnd | apply gsd | apply csd | apply gsn | apply csn | apply gs | apply cs_) <;> intro _) | (with_reducible refine objQ_i (fun _ _ => ?_); repeat with_reducible refine imp_i (fun _ => ?_))))
    refine callH_then (hC _).out ?_
    rintro r s (⟨h0, t', rfl, rfl⟩ | ⟨b, c, rest, h0, h1, h2, h3, rfl, rfl⟩)
    · subst h0
      clear hC hD hcmp hl
      (repeat' (first | (simp (maxDischargeDepth := 16) only [*, vX, ↓vD, vU, ↓vMd, vMu, vZ, seval]) | (simp (disch := first | assumption | omega | rfl | exact fun _ => rfl) only [vP]) | ((with_reducible first | apply gsnd | apply csnd | apply gsd | apply csd | apply gsn | apply csn | apply gs | apply cs_) <;> intro _) | (with_reducible refine objQ_i (fun _ _ => ?_); repeat with_reducible refine imp_i (fun _ => ?_)) | (with_reducible first | refine callH_use (DeleteNil_v _ _) ?_ | refine pureQ_use (DeleteNil_v _ _) ?_) | (with_reducible first | refine callH_use (hB) ?_ | refine pureQ_use (hB) ?_) | (with_reducible first | refine callH_use (SoJob.sortStable_nil _ _) ?_ | refine pureQ_use (SoJob.sortStable_nil _ _) ?_)))
      exact ⟨_, by (refine ⟨fun i o e => ?_, fun _ h => h⟩; revert e; simp only [St.ins, St.del, add_objs, kill_objs]; (repeat' split); all_goals (first | exact id | (intros; contradiction) | (intros; subst_vars; contradiction) | (intros; simp_all; done) | (intros; subst_vars; simp_all; done))), .inl ⟨_, rfl, St.le.refl _⟩⟩
    · (repeat' (first | (simp (maxDischargeDepth := 16) only [*, vX, ↓vD, vU, ↓vMd, vMu, vZ, seval]) | (simp (disch := first | assumption | omega | rfl | exact fun _ => rfl) only [vP]) | ((with_reducible first | apply gsnd | apply csnd | apply gsd | apply csd | apply gsn | apply csn | apply gs | apply cs_) <;> intro _) | (with_reducible refine objQ_i (fun _ _ => ?_); repeat with_reducible refine imp_i (fun _ => ?_))))
      refine callH_then (hD _ b c h2 rest).out ?_
      rintro r s ⟨rest', rfl, rfl⟩
      clear hC hD
      obtain ⟨xs, hxs⟩ : ∃ xs, l.filter runsJ = xs := ⟨_, rfl⟩
      have HX := Hid.mk hxs
      have hxl : xs.length ≤ 1000000000 := by rw [← hxs]; exact Nat.le_trans (List.length_filter_le _ _) hl
      rw [hxs]
      obtain ⟨S0, hS0⟩ : ∃ S0, ob st b Job.a rest' xs = S0 := ⟨_, rfl⟩
      have h0b : S0.objs b = some (.cells (fl Job.a xs ++ rest')) := by rw [← hS0]; exact ob_objs ..
      have HS := Hid.mk hS0
      rw [hS0]
      clear hxs hS0 h0
      (repeat' (first | (simp (maxDischargeDepth := 16) only [*, vX, ↓vD, vU, ↓vMd, vMu, vZ, seval]) | (simp (disch := first | assumption | omega | rfl | exact fun _ => rfl) only [vP]) | ((with_reducible first | apply gsnd | apply csnd | apply gsd | apply csd | apply gsn | apply csn | apply gs | apply cs_) <;> intro _) | (with_reducible refine objQ_i (fun _ _ => ?_); repeat with_reducible refine imp_i (fun _ => ?_)) | (with_reducible first | refine callH_use (hB) ?_ | refine pureQ_use (hB) ?_)))
      rename_i b4 h4 b5 h5 n54 n45
      have m4 : ¬ b = b4 := fun e => by subst e; rw [h0b] at h4; cases h4
      have m5 : ¬ b = b5 := fun e => by subst e; rw [h0b] at h5; cases h5
      obtain ⟨S, hS⟩ : ∃ S, (S0.ins b4 (.cells [.clo 59 [] []])).ins b5 (.cells [.clo 60 [] []]) = S := ⟨_, rfl⟩
      have hob : S.objs b = some (.cells (fl Job.a xs ++ rest')) := by rw [← hS]; simp only [St.ins, m4, m5, if_false]; exact h0b
      have hle : Hid (st.le (S.del b)) := ⟨by
        rw [← hS, ← HS.out]; refine ⟨fun i o h => ?_, fun x h => by simpa [St.ins, St.del, ob] using h⟩
        have e1 : i ≠ b := fun e => by subst e; rw [h1] at h; cases h
        have e2 : i ≠ b4 := fun e => by subst e; rw [← HS.out] at h4; simp only [ob, St.ins, e1, if_false] at h4; rw [h4] at h; cases h
        have e3 : i ≠ b5 := fun e => by subst e; rw [← HS.out] at h5; simp only [ob, St.ins, e1, if_false] at h5; rw [h5] at h; cases h
        simp only [St.ins, St.del, ob, e1, e2, e3, if_false, h]⟩
      rw [hS]
      have hsort := SoJob.sortStable (Z := Z) Job.a Job.ok Job.ag (gf := 89) (fs := []) (cs := [.iptr (.sl [.agg [.clo 59 [] []], .agg [.clo 60 [] []]] .full) 0]) cmpJ swoJ hcmp S b xs.length c rest' xs rfl hxl
      rw [show ob S b Job.a rest' xs = S from ins_self hob] at hsort
      refine callH_then hsort ?_
      rintro _ _ ⟨rfl, rfl⟩
      clear hsort hS h4 h5 h0b hob
      (repeat' (first | (simp (maxDischargeDepth := 16) only [*, vX, ↓vD, vU, ↓vMd, vMu, vZ, seval]) | (simp (disch := first | assumption | omega | rfl | exact fun _ => rfl) only [vP]) | ((with_reducible first | apply gsnd | apply csnd | apply gsd | apply csd | apply gsn | apply csn | apply gs | apply cs_) <;> intro _) | (with_reducible refine objQ_i (fun _ _ => ?_); repeat with_reducible refine imp_i (fun _ => ?_))))
      refine ⟨_, St.le.refl _, .inr ⟨S.del b, b, c, rest', by simp [St.del], hle.out, rfl, ?_⟩⟩
      unfold runJ
      rw [HX.out]
      unfold ob; rw [del_insJ]
  · rintro r s (⟨rfl, t, rfl, h⟩ | ⟨S, b, c, rest, h1, h2, rfl, rfl⟩)
    · exact ⟨_, st, fun B I W vs hr ha => by
        match vs, ha with
        | [v], ha => exact ⟨I, Im.le.refl _, hr.weaken h, ⟨Rep.noTok ha.1, trivial⟩⟩
        | [], ha => exact ha.elim
        | _ :: _ :: _, ha => exact ha.2.elim, rfl, rfl⟩
    · refine ⟨_, st, (Wk.freeze (ob S b Job.a rest (runJ l)) (sz := 5) (by omega) (xs := (runJ l).map Job.a) (rest := rest) (by simp only [ob, St.ins, if_true]; rfl) (by unfold runJ; rw [List.length_map, len_sortS]) (by
        intro x hx; obtain ⟨y, _, rfl⟩ := List.mem_map.1 hx; rfl)).trans (Wk.le ⟨fun i o h => ?_, fun k h => ?_⟩ _), rfl, rfl⟩
      · have hne : i ≠ b := fun e => by subst e; have := h2.objs _ _ h; rw [h1] at this; cases this
        simp only [ob, St.ins, St.del, hne, if_false]
        exact h2.objs _ _ h
      · exact h2.live _ h
end Go.Proofs.Ytglekfgoadehbaa.V
end
section
/- preempt.May, Sum, Order, may, Victims. -/
namespace Go.Proofs.Ytglekfgoadehbaa.V
open Go Go.Proofs Go.Proofs.Ytglekfgoadehbaa.SP
set_option maxRecDepth 100000
set_option maxHeartbeats 4000000
def nu (n : Int) : AV := .int .u32 n
theorem May_p (x : Job) : VPure Try.prog 12 [x.a] (.bool (mayJ x)) := by
  refine VPure.of v_preempt_May_ok (Nat.le_of_ble_eq_true rfl) (fun Z st => ?_)
  unfold mayJ
  simp only [v_preempt_May, ↓vD, vU, ↓vMd, vMu, vZ, seval, k_app, k_slc1]
  (repeat' (first | (simp (maxDischargeDepth := 16) only [*, Job.a, vX, ↓vD, vU, ↓vMd, vMu, vZ, seval]) | (simp (disch := first | assumption | omega | rfl | exact fun _ => rfl) only [Job.a, vP]) | ((with_reducible first | apply gsnd | apply csnd | apply gsd | apply csd | apply gsn | apply csn | apply gs | apply cs_) <;> intro _) | (with_reducible refine objQ_i (fun _ _ => ?_); repeat with_reducible refine imp_i (fun _ => ?_))))
  (all_goals (first | rfl | (simp_all; done) | (simp_all <;> omega)))
theorem sumJ_take {l : List Job} {k : Nat} (h : k < l.length) : sumJ (l.take (k + 1)) = sumJ (l.take k) + l[k].g := by
  unfold sumJ
  rw [List.take_add_one, List.getElem?_eq_getElem h, List.map_append, List.sum_append]
  simp only [Option.toList_some, List.map_cons, List.map_nil, List.sum_cons, List.sum_nil, Int.add_zero]
theorem sumJ_bd (l : List Job) : 0 ≤ sumJ l ∧ sumJ l ≤ 4294967295 * l.length := by
  unfold sumJ
  induction l with
  | nil => simp
  | cons x r ih =>
    have := x.h
    simp only [List.map_cons, List.sum_cons, List.length_cons]; omega
theorem runJ_len (l : List Job) : (runJ l).length ≤ l.length := by
  unfold runJ; rw [len_sortS]; exact List.length_filter_le _ _
theorem running_v (l : List Job) (hl : l.length ≤ 1000000000) (t : Tok) : VPure Try.prog 34 [.sl (l.map Job.a) t] (.sl ((runJ l).map Job.a) .no) := fun _ _ => running_c l hl t
theorem Sum_p (l : List Job) (hl : l.length ≤ 2000000) (t : Tok) : VPure Try.prog 17 [.sl (l.map Job.a) t] (.int .i64 (sumJ (runJ l))) := by
  refine VPure.of v_preempt_Sum_ok (Nat.le_of_ble_eq_true rfl) (fun Z st => ?_)
  have hR := running_v l (by omega) t
  have hrl := runJ_len l
  obtain ⟨xs, hxs⟩ : ∃ xs, runJ l = xs := ⟨_, rfl⟩
  rw [hxs] at hR hrl ⊢
  clear hxs
  simp only [v_preempt_Sum, ↓vD, vU, ↓vMd, vMu, vZ, seval, k_app, k_slc1]
  (repeat' (first | (simp (maxDischargeDepth := 16) only [*, vX, ↓vD, vU, ↓vMd, vMu, vZ, seval]) | (simp (disch := first | assumption | omega | rfl | exact fun _ => rfl) only [vP]) | ((with_reducible first | apply gsnd | apply csnd | apply gsd | apply csd | apply gsn | apply csn | apply gs | apply cs_) <;> intro _) | (with_reducible refine objQ_i (fun _ _ => ?_); repeat with_reducible refine imp_i (fun _ => ?_)) | (with_reducible first | refine callH_use (hR) ?_ | refine pureQ_use (hR) ?_)))
  refine loopp_of (len := xs.length) (by simp only [asgL, dsts, List.cons_append, List.nil_append, List.append_nil]; rfl) (by simp only [noR, Bool.and_true, Bool.and_false]; rfl) (by omega) (fun k fr => fr.t 9 = .int .i64 k ∧ fr.t 3 = .int .i64 (sumJ (xs.take k))) ?_ ?_ ?_
  · simp [↓vD, vU, ↓vMd, vMu, vZ, seval, k_app, k_slc1, sumJ]
  · rintro k fr hk hwk hfr hd ⟨h9, h3⟩
    have hs1 := sumJ_take hk
    have hs2 := sumJ_bd (xs.take k)
    rw [List.length_take] at hs2
    obtain ⟨x, hx⟩ : ∃ x, xs[k] = x := ⟨_, rfl⟩
    rw [hx] at hs1
    obtain ⟨s, hs⟩ : ∃ s, sumJ (xs.take k) = s := ⟨_, rfl⟩
    rw [hs] at hs1 hs2 h3
    rw [hs1]
    have hg := x.h
    have hw1 : IntKind.i64.wrap x.g = x.g := wrap_i64 _ (by omega) (by omega)
    have hw2 : IntKind.i64.wrap (s + x.g) = s + x.g := wrap_i64 _ (by omega) (by omega)
    clear hs hs1
    (repeat' (first | (simp (maxDischargeDepth := 16) only [*, Job.a, vX, ↓vD, vU, ↓vMd, vMu, vZ, seval]) | (simp (disch := first | assumption | omega | rfl | exact fun _ => rfl) only [Job.a, vP]) | ((with_reducible first | apply gsnd | apply csnd | apply gsd | apply csd | apply gsn | apply csn | apply gs | apply cs_) <;> intro _) | (with_reducible refine objQ_i (fun _ _ => ?_); repeat with_reducible refine imp_i (fun _ => ?_))))
    all_goals first | done | (refine ⟨fun i o e => ?_, fun _ h => h⟩; revert e; simp only [St.ins, St.del, add_objs, kill_objs]; (repeat' split); all_goals (first | exact id | (intros; contradiction) | (intros; subst_vars; contradiction) | (intros; simp_all; done) | (intros; subst_vars; simp_all; done)))
  · rintro fr hfr hd ⟨h9, h3⟩
    rw [List.take_length] at h3
    (repeat' (first | (simp (maxDischargeDepth := 16) only [*, vX, ↓vD, vU, ↓vMd, vMu, vZ, seval]) | (simp (disch := first | assumption | omega | rfl | exact fun _ => rfl) only [vP]) | ((with_reducible first | apply gsnd | apply csnd | apply gsd | apply csd | apply gsn | apply csn | apply gs | apply cs_) <;> intro _) | (with_reducible refine objQ_i (fun _ _ => ?_); repeat with_reducible refine imp_i (fun _ => ?_))))
def idxU (acc : List Int) (v : Int) : Int := idxI (fun k => (acc[k]?.map (· == v)).getD false) acc.length
theorem Index_u (acc : List Int) (hl : acc.length ≤ 1000000000) (t : Tok) (v : Int) : VPure Try.prog 64 [.sl (acc.map nu) t, .int .u32 v] (.int .i64 (idxU acc v)) := by
  refine VPure.of v_slices_Index_uint32_uint32_ok (Nat.le_of_ble_eq_true rfl) (fun Z st => ?_)
  unfold idxU
  obtain ⟨g, hg⟩ : ∃ g : Nat → Bool, (fun k => (acc[k]?.map (· == v)).getD false) = g := ⟨_, rfl⟩
  have hgk : ∀ k (h : k < acc.length), g k = (acc[k] == v) := fun k h => by rw [← hg]; simp only [List.getElem?_eq_getElem h]; rfl
  rw [hg]
  have HG := Hid.mk hgk
  clear hg hgk
  simp only [v_slices_Index_uint32_uint32, ↓vD, vU, ↓vMd, vMu, vZ, seval, k_app, k_slc1]
  refine loopp_of (len := acc.length) (by simp only [asgL, dsts, List.cons_append, List.nil_append, List.append_nil]; rfl) (by simp only [noR, Bool.and_true, Bool.and_false]; rfl) (by omega) (fun k fr => fr.t 8 = .int .i64 k ∧ Hid (∀ j, j < k → g j = false)) ?_ ?_ ?_
  · exact ⟨by simp [↓vD, vU, ↓vMd, vMu, vZ, seval, k_app, k_slc1], ⟨fun j hj => absurd hj (Nat.not_lt_zero _)⟩⟩
  · rintro k fr hk hwk hfr hd ⟨h8, HN⟩
    have hgk := HG.out k hk
    obtain ⟨x, hx⟩ : ∃ x, acc[k] = x := ⟨_, rfl⟩
    rw [hx] at hgk
    by_cases c : v = x
    · have H1 : Hid (g k = true) := ⟨by rw [hgk, c]; simp⟩
      have hidx := Hid.mk (idx_hit hk HN.out H1.out)
      clear hgk HG HN H1
      (repeat' (first | (simp (maxDischargeDepth := 16) only [*, nu, vX, ↓vD, vU, ↓vMd, vMu, vZ, seval]) | (simp (disch := first | assumption | omega | rfl | exact fun _ => rfl) only [nu, vP]) | ((with_reducible first | apply gsnd | apply csnd | apply gsd | apply csd | apply gsn | apply csn | apply gs | apply cs_) <;> intro _)))
      all_goals first | done | exact hidx.out.symm | trace_state
    · have H1 : Hid (g k = false) := ⟨by rw [hgk]; simp; exact fun e => c e.symm⟩
      clear hgk HG
      (repeat' (first | (simp (maxDischargeDepth := 16) only [*, nu, vX, ↓vD, vU, ↓vMd, vMu, vZ, seval]) | (simp (disch := first | assumption | omega | rfl | exact fun _ => rfl) only [nu, vP]) | ((with_reducible first | apply gsnd | apply csnd | apply gsd | apply csd | apply gsn | apply csn | apply gs | apply cs_) <;> intro _)))
      all_goals first | done | exact ⟨fun j hj => by
        rcases Nat.lt_succ_iff_lt_or_eq.1 hj with hj | rfl
        · exact HN.out j hj
        · exact H1.out⟩ | trace_state
  · rintro fr hfr hd ⟨h8, HN⟩
    have hidx := Hid.mk (idx_none HN.out)
    clear HG HN
    (repeat' (first | (simp (maxDischargeDepth := 16) only [*, vX, ↓vD, vU, ↓vMd, vMu, vZ, seval]) | (simp (disch := first | assumption | omega | rfl | exact fun _ => rfl) only [vP]) | ((with_reducible first | apply gsnd | apply csnd | apply gsd | apply csd | apply gsn | apply csn | apply gs | apply cs_) <;> intro _)))
    all_goals first | done | exact hidx.out.symm | trace_state
theorem Contains_u (acc : List Int) (hl : acc.length ≤ 1000000000) (t : Tok) (v : Int) : VPure Try.prog 36 [.sl (acc.map nu) t, .int .u32 v] (.bool (acc.contains v)) := by
  refine VPure.of v_slices_Contains_uint32_uint32_ok (Nat.le_of_ble_eq_true rfl) (fun Z st => ?_)
  have hI := Index_u acc hl t v
  have e : acc.contains v = decide (0 ≤ idxU acc v) := by
    unfold idxU
    rw [idx_any, any_range, List.contains_eq_any_beq]
    congr 1
    funext x
    simp [BEq.comm]
  rw [e]
  obtain ⟨i, hi⟩ : ∃ i, idxU acc v = i := ⟨_, rfl⟩
  rw [hi] at hI ⊢
  simp only [v_slices_Contains_uint32_uint32, ↓vD, vU, ↓vMd, vMu, vZ, seval, k_app, k_slc1]
  (repeat' (first | (simp (maxDischargeDepth := 16) only [*, vX, ↓vD, vU, ↓vMd, vMu, vZ, seval]) | (simp (disch := first | assumption | omega | rfl | exact fun _ => rfl) only [vP]) | ((with_reducible first | apply gsnd | apply csnd | apply gsd | apply csd | apply gsn | apply csn | apply gs | apply cs_) <;> intro _) | (with_reducible first | refine callH_use (hI) ?_ | refine pureQ_use (hI) ?_)))
theorem orderF_take (xs : List Job) {k : Nat} (h : k < xs.length) : (xs.take (k + 1)).foldl addId [] = addId ((xs.take k).foldl addId []) xs[k] := by
  rw [List.take_add_one, List.getElem?_eq_getElem h, List.foldl_append]; rfl
theorem nu_all (acc : List Int) : ∀ x ∈ acc.map nu, x.cells.length = 1 := fun x hx => by obtain ⟨y, _, rfl⟩ := List.mem_map.1 hx; rfl
theorem Order_p (l : List Job) (hl : l.length ≤ 2000000) (t : Tok) : VPure Try.prog 15 [.sl (l.map Job.a) t] (.sl ((orderF l).map nu) .no) := by
  refine VPure.tok (fun Z st => ?_)
  have hR := running_v l (by omega) t
  have hrl := runJ_len l
  unfold orderF
  obtain ⟨xs, hxs⟩ : ∃ xs, runJ l = xs := ⟨_, rfl⟩
  rw [hxs] at hR hrl ⊢
  clear hxs
  refine VCalls.of v_preempt_Order_ok (Nat.le_of_ble_eq_true rfl) ?_
  simp only [v_preempt_Order, ↓vD, vU, ↓vMd, vMu, vZ, seval, k_app, k_slc1]
  (repeat' (first | (simp (maxDischargeDepth := 16) only [*, vX, ↓vD, vU, ↓vMd, vMu, vZ, seval]) | (simp (disch := first | assumption | omega | rfl | exact fun _ => rfl) only [vP]) | ((with_reducible first | apply gsnd | apply csnd | apply gsd | apply csd | apply gsn | apply csn | apply gs | apply cs_) <;> intro _) | (with_reducible refine objQ_i (fun _ _ => ?_); repeat with_reducible refine imp_i (fun _ => ?_)) | ((try with_reducible refine appK_a ?_); first | (with_reducible refine appD_F (by refine ⟨?_, ?_, ?_, ?_⟩ <;> (first | assumption | omega | exact St.has_add (by assumption) | (simp only [ins_has]; exact St.has_add (by assumption)) | (simp only [ins_has, fresh_ins, kill_ins, add_ins] at *; exact St.has_add (by assumption)) | (simp only [*, ins_has, has_full, St.has_add]; done) | (simp [-List.map_take, -List.map_drop, or_imp, forall_and, Seg.a, Vec.a, Leg.a, num, okEl, cells_agg, cells_int, cells_sl, cells_bool, AV.isCell]; done) | (simp; omega))) (fun _ _ => ?_)) | (with_reducible refine appD_V (by refine ⟨?_, ?_, ?_, ?_, ?_⟩ <;> (first | assumption | omega | exact St.has_add (by assumption) | (simp only [ins_has]; exact St.has_add (by assumption)) | (simp only [ins_has, fresh_ins, kill_ins, add_ins] at *; exact St.has_add (by assumption)) | (simp only [*, ins_has, has_full, St.has_add]; done) | (simp [-List.map_take, -List.map_drop, or_imp, forall_and, Seg.a, Vec.a, Leg.a, num, okEl, cells_agg, cells_int, cells_sl, cells_bool, AV.isCell]; done) | (simp; omega))) (fun _ _ => ?_))) | (with_reducible refine freshQ_i (fun _ _ => ?_)) | (with_reducible first | refine callH_use (hR) ?_ | refine pureQ_use (hR) ?_)))
  refine loopf_of (len := xs.length) (by simp only [asgL, dsts, List.cons_append, List.nil_append, List.append_nil]; rfl) (by simp only [noR, Bool.and_true, Bool.and_false]; rfl) (by omega) (fun k fr s => ∃ acc tk, Ours 1 st s tk ∧ fr.t 9 = .int .i64 k ∧ fr.t 3 = .sl (acc.map nu) tk ∧ acc.length ≤ k ∧ Hid (acc = (xs.take k).foldl addId [])) ?_ ?_ ?_
  · exact ⟨[], .full, Ours.full 1 st, by simp [↓vD, vU, ↓vMd, vMu, vZ, seval, k_app, k_slc1], by simp [↓vD, vU, ↓vMd, vMu, vZ, seval, k_app, k_slc1], by simp, ⟨by simp⟩⟩
  · rintro k fr s hk hwk hfr hd ⟨acc, tk, ho, h9, h3, hal, HA⟩
    have hts := ho.has
    have hal1 := nu_all acc
    have hnx := orderF_take xs hk
    rw [← HA.out] at hnx
    obtain ⟨x, hx⟩ : ∃ x, xs[k] = x := ⟨_, rfl⟩
    rw [hx] at hnx
    rw [hnx]
    have hC := Contains_u acc (by omega) tk x.id
    unfold addId
    obtain ⟨c, hc⟩ : ∃ c, acc.contains x.id = c := ⟨_, rfl⟩
    rw [hc] at hC ⊢
    clear hnx hc HA
    cases c
    · (repeat' (first | (simp (maxDischargeDepth := 16) only [*, Job.a, nu, vX, ↓vD, vU, ↓vMd, vMu, vZ, seval]) | (simp (disch := first | assumption | omega | rfl | exact fun _ => rfl) only [Job.a, nu, vP]) | ((with_reducible first | apply gsnd | apply csnd | apply gsd | apply csd | apply gsn | apply csn | apply gs | apply cs_) <;> intro _) | (with_reducible refine objQ_i (fun _ _ => ?_); repeat with_reducible refine imp_i (fun _ => ?_)) | ((try with_reducible refine appK_a ?_); first | (with_reducible refine appD_F (by refine ⟨?_, ?_, ?_, ?_⟩ <;> (first | assumption | omega | exact St.has_add (by assumption) | (simp only [ins_has]; exact St.has_add (by assumption)) | (simp only [ins_has, fresh_ins, kill_ins, add_ins] at *; exact St.has_add (by assumption)) | (simp only [*, ins_has, has_full, St.has_add]; done) | (simp [-List.map_take, -List.map_drop, or_imp, forall_and, Seg.a, Vec.a, Leg.a, num, okEl, cells_agg, cells_int, cells_sl, cells_bool, AV.isCell]; done) | (simp; omega))) (fun _ _ => ?_)) | (with_reducible refine appD_V (by refine ⟨?_, ?_, ?_, ?_, ?_⟩ <;> (first | assumption | omega | exact St.has_add (by assumption) | (simp only [ins_has]; exact St.has_add (by assumption)) | (simp only [ins_has, fresh_ins, kill_ins, add_ins] at *; exact St.has_add (by assumption)) | (simp only [*, ins_has, has_full, St.has_add]; done) | (simp [-List.map_take, -List.map_drop, or_imp, forall_and, Seg.a, Vec.a, Leg.a, num, okEl, cells_agg, cells_int, cells_sl, cells_bool, AV.isCell]; done) | (simp; omega))) (fun _ _ => ?_))) | (with_reducible refine freshQ_i (fun _ _ => ?_)) | (with_reducible first | refine callH_use (hC) ?_ | refine pureQ_use (hC) ?_)))
      rename_i b5 hb5 t1 hf1
      have ho3 := ho.next (t' := t1) (by simpa only [kill_ins, fresh_ins] using hf1)
      exact ⟨_, by (refine ⟨fun i o e => ?_, fun _ h => h⟩; revert e; simp only [St.ins, St.del, add_objs, kill_objs]; (repeat' split); all_goals (first | exact id | (intros; contradiction) | (intros; subst_vars; contradiction) | (intros; simp_all; done) | (intros; subst_vars; simp_all; done))), acc ++ [x.id], t1, ho3, by simp [nu], by simp; omega, ⟨rfl⟩⟩
    · (repeat' (first | (simp (maxDischargeDepth := 16) only [*, Job.a, nu, vX, ↓vD, vU, ↓vMd, vMu, vZ, seval]) | (simp (disch := first | assumption | omega | rfl | exact fun _ => rfl) only [Job.a, nu, vP]) | ((with_reducible first | apply gsnd | apply csnd | apply gsd | apply csd | apply gsn | apply csn | apply gs | apply cs_) <;> intro _) | (with_reducible refine objQ_i (fun _ _ => ?_); repeat with_reducible refine imp_i (fun _ => ?_)) | ((try with_reducible refine appK_a ?_); first | (with_reducible refine appD_F (by refine ⟨?_, ?_, ?_, ?_⟩ <;> (first | assumption | omega | exact St.has_add (by assumption) | (simp only [ins_has]; exact St.has_add (by assumption)) | (simp only [ins_has, fresh_ins, kill_ins, add_ins] at *; exact St.has_add (by assumption)) | (simp only [*, ins_has, has_full, St.has_add]; done) | (simp [-List.map_take, -List.map_drop, or_imp, forall_and, Seg.a, Vec.a, Leg.a, num, okEl, cells_agg, cells_int, cells_sl, cells_bool, AV.isCell]; done) | (simp; omega))) (fun _ _ => ?_)) | (with_reducible refine appD_V (by refine ⟨?_, ?_, ?_, ?_, ?_⟩ <;> (first | assumption | omega | exact St.has_add (by assumption) | (simp only [ins_has]; exact St.has_add (by assumption)) | (simp only [ins_has, fresh_ins, kill_ins, add_ins] at *; exact St.has_add (by assumption)) | (simp only [*, ins_has, has_full, St.has_add]; done) | (simp [-List.map_take, -List.map_drop, or_imp, forall_and, Seg.a, Vec.a, Leg.a, num, okEl, cells_agg, cells_int, cells_sl, cells_bool, AV.isCell]; done) | (simp; omega))) (fun _ _ => ?_))) | (with_reducible refine freshQ_i (fun _ _ => ?_)) | (with_reducible first | refine callH_use (hC) ?_ | refine pureQ_use (hC) ?_)))
      rename_i b5 hb5
      exact ⟨s, by (refine ⟨fun i o e => ?_, fun _ h => h⟩; revert e; simp only [St.ins, St.del, add_objs, kill_objs]; (repeat' split); all_goals (first | exact id | (intros; contradiction) | (intros; subst_vars; contradiction) | (intros; simp_all; done) | (intros; subst_vars; simp_all; done))), acc, tk, ho, rfl, by omega, ⟨rfl⟩⟩
  · rintro fr s hfr hd ⟨acc, tk, ho, h9, h3, hal, HA⟩
    rw [List.take_length] at HA
    have hun := ho.under
    (repeat' (first | (simp (maxDischargeDepth := 16) only [*, vX, ↓vD, vU, ↓vMd, vMu, vZ, seval]) | (simp (disch := first | assumption | omega | rfl | exact fun _ => rfl) only [vP]) | ((with_reducible first | apply gsnd | apply csnd | apply gsd | apply csd | apply gsn | apply csn | apply gs | apply cs_) <;> intro _) | (with_reducible refine objQ_i (fun _ _ => ?_); repeat with_reducible refine imp_i (fun _ => ?_)) | ((try with_reducible refine appK_a ?_); first | (with_reducible refine appD_F (by refine ⟨?_, ?_, ?_, ?_⟩ <;> (first | assumption | omega | exact St.has_add (by assumption) | (simp only [ins_has]; exact St.has_add (by assumption)) | (simp only [ins_has, fresh_ins, kill_ins, add_ins] at *; exact St.has_add (by assumption)) | (simp only [*, ins_has, has_full, St.has_add]; done) | (simp [-List.map_take, -List.map_drop, or_imp, forall_and, Seg.a, Vec.a, Leg.a, num, okEl, cells_agg, cells_int, cells_sl, cells_bool, AV.isCell]; done) | (simp; omega))) (fun _ _ => ?_)) | (with_reducible refine appD_V (by refine ⟨?_, ?_, ?_, ?_, ?_⟩ <;> (first | assumption | omega | exact St.has_add (by assumption) | (simp only [ins_has]; exact St.has_add (by assumption)) | (simp only [ins_has, fresh_ins, kill_ins, add_ins] at *; exact St.has_add (by assumption)) | (simp only [*, ins_has, has_full, St.has_add]; done) | (simp [-List.map_take, -List.map_drop, or_imp, forall_and, Seg.a, Vec.a, Leg.a, num, okEl, cells_agg, cells_int, cells_sl, cells_bool, AV.isCell]; done) | (simp; omega))) (fun _ _ => ?_))) | (with_reducible refine freshQ_i (fun _ _ => ?_))))
    refine ⟨st, hun, tk, ?_, rfl⟩
    rw [HA.out]
def metM (m : List (Int × Int)) (ids : List Int) : Prop := ∀ a, mlook m a = if ids.contains a then some 1 else none
theorem mlook_mset (m : List (Int × Int)) (a v b : Int) : mlook (mset m a v) b = if b == a then some v else mlook m b := by
  induction m with
  | nil => simp [mset, mlook]
  | cons q r ih =>
    unfold mset
    split
    · rename_i h
      have e := eq_of_beq h
      unfold mlook
      split <;> simp_all
    · rename_i h
      unfold mlook
      rw [ih]
      split
      · rename_i h2
        have e := eq_of_beq h2
        have : ¬ (b == a) = true := fun h3 => by rw [eq_of_beq h3] at h2; exact h h2
        simp [this]
      · rfl
theorem metM_next {m : List (Int × Int)} {ids : List Int} (h : metM m ids) (a : Int) : metM (mset m a 1) (a :: ids) := fun b => by
  rw [mlook_mset, h b]
  by_cases c : b = a
  · subst c; simp
  · simp [c]
theorem may_p (l : List Job) (hl : l.length ≤ 2000000) (t : Tok) : VPure Try.prog 33 [.sl (l.map Job.a) t] (.bool (allJ l [])) := by
  refine VPure.of v_preempt_may_ok (Nat.le_of_ble_eq_true rfl) (fun Z st => ?_)
  obtain ⟨r, hr⟩ : ∃ r, allJ l [] = r := ⟨_, rfl⟩
  rw [hr]
  have HR := Hid.mk hr
  clear hr
  simp only [v_preempt_may, ↓vD, vU, ↓vMd, vMu, vZ, seval, k_app, k_slc1]
  (repeat' (first | (simp (maxDischargeDepth := 16) only [*, vX, ↓vD, vU, ↓vMd, vMu, vZ, seval]) | (simp (disch := first | assumption | omega | rfl | exact fun _ => rfl) only [vP]) | ((with_reducible first | apply gsnd | apply csnd | apply gsd | apply csd | apply gsn | apply csn | apply gs | apply cs_) <;> intro _) | (with_reducible refine objQ_i (fun _ _ => ?_); repeat with_reducible refine imp_i (fun _ => ?_))))
  rename_i b3 h3
  rw [mo_new (Value.int .u32) .i64]
  refine loopf_of (len := l.length) (by simp only [asgL, dsts, List.cons_append, List.nil_append, List.append_nil]; rfl) (by simp only [noR, Bool.and_true, Bool.and_false]; rfl) (by omega) (fun k fr s => ∃ m ids, s = st.ins b3 (mo (Value.int .u32) .i64 m) ∧ fr.t 9 = .int .i64 k ∧ Hid (metM m ids) ∧ Hid (allJ (l.drop k) ids = r)) ?_ ?_ ?_
  · exact ⟨[], [], rfl, by simp [↓vD, vU, ↓vMd, vMu, vZ, seval, k_app, k_slc1], ⟨fun a => rfl⟩, HR⟩
  · clear HR
    rintro k fr s hk hwk hfr hd ⟨m, ids, rfl, h9, HM, HA⟩
    obtain ⟨x, hx⟩ : ∃ x, l[k] = x := ⟨_, rfl⟩
    have hn : (mayJ x && !ids.contains x.id && allJ (l.drop (k + 1)) (x.id :: ids)) = r := by rw [← HA.out, List.drop_eq_getElem_cons hk, hx, allJ]
    have hmx := May_p x
    have hlk := HM.out x.id
    have hnx := metM_next HM.out x.id
    obtain ⟨p, hp⟩ : ∃ p, mayJ x = p := ⟨_, rfl⟩
    obtain ⟨q, hq⟩ : ∃ q, ids.contains x.id = q := ⟨_, rfl⟩
    rw [hp] at hmx hn
    rw [hq] at hn hlk
    have HN := Hid.mk hn
    have HX := Hid.mk hnx
    simp only [Job.a] at hmx
    clear hp hq hn hnx HM HA
    cases p
    · obtain rfl : r = false := by rw [← HN.out]; rfl
      clear HN
      (repeat' (first | (simp (maxDischargeDepth := 16) only [*, Job.a, vX, ↓vD, vU, ↓vMd, vMu, vZ, seval]) | (simp (disch := first | assumption | omega | rfl | exact fun _ => rfl) only [Job.a, vP]) | ((with_reducible first | apply gsnd | apply csnd | apply gsd | apply csd | apply gsn | apply csn | apply gs | apply cs_) <;> intro _) | (with_reducible refine objQ_i (fun _ _ => ?_); repeat with_reducible refine imp_i (fun _ => ?_)) | (with_reducible first | refine callH_use (hmx) ?_ | refine pureQ_use (hmx) ?_)))
      all_goals first | done | (refine ⟨fun i o e => ?_, fun _ h => h⟩; revert e; simp only [St.ins, St.del, add_objs, kill_objs]; (repeat' split); all_goals (first | exact id | (intros; contradiction) | (intros; subst_vars; contradiction) | (intros; simp_all; done) | (intros; subst_vars; simp_all; done))) | trace_state
    · cases q
      · have HN2 : Hid (allJ (l.drop (k + 1)) (x.id :: ids) = r) := ⟨by rw [← HN.out]; rfl⟩
        simp only [Bool.false_eq_true, if_false] at hlk
        clear HN
        (repeat' (first | (simp (maxDischargeDepth := 16) only [*, Job.a, Option.getD_none, vX, ↓vD, vU, ↓vMd, vMu, vZ, seval]) | (simp (disch := first | assumption | omega | rfl | exact fun _ => rfl) only [Job.a, Option.getD_none, vP]) | ((with_reducible first | apply gsnd | apply csnd | apply gsd | apply csd | apply gsn | apply csn | apply gs | apply cs_) <;> intro _) | (with_reducible refine objQ_i (fun _ _ => ?_); repeat with_reducible refine imp_i (fun _ => ?_)) | (with_reducible first | refine callH_use (hmx) ?_ | refine pureQ_use (hmx) ?_)))
        rename_i b5 hb5 n53 n35
        exact ⟨st.ins b3 (mo (Value.int .u32) .i64 (mset m x.id 1)), by (refine ⟨fun i o e => ?_, fun _ h => h⟩; revert e; simp only [St.ins, St.del, add_objs, kill_objs]; (repeat' split); all_goals (first | exact id | (intros; contradiction) | (intros; subst_vars; contradiction) | (intros; simp_all; done) | (intros; subst_vars; simp_all; done))), _, _, rfl, HX, HN2⟩
      · obtain rfl : r = false := by rw [← HN.out]; rfl
        simp only [if_true] at hlk
        clear HN
        (repeat' (first | (simp (maxDischargeDepth := 16) only [*, Job.a, vX, ↓vD, vU, ↓vMd, vMu, vZ, seval]) | (simp (disch := first | assumption | omega | rfl | exact fun _ => rfl) only [Job.a, vP]) | ((with_reducible first | apply gsnd | apply csnd | apply gsd | apply csd | apply gsn | apply csn | apply gs | apply cs_) <;> intro _) | (with_reducible refine objQ_i (fun _ _ => ?_); repeat with_reducible refine imp_i (fun _ => ?_)) | (with_reducible first | refine callH_use (hmx) ?_ | refine pureQ_use (hmx) ?_)))
        all_goals first | done | (refine ⟨fun i o e => ?_, fun _ h => h⟩; revert e; simp only [St.ins, St.del, add_objs, kill_objs]; (repeat' split); all_goals (first | exact id | (intros; contradiction) | (intros; subst_vars; contradiction) | (intros; simp_all; done) | (intros; subst_vars; simp_all; done))) | trace_state
  · rintro fr s hfr hd ⟨m, ids, rfl, h9, HM, HA⟩
    rw [List.drop_length] at HA
    obtain rfl : r = true := by rw [← HA.out]; rfl
    (repeat' (first | (simp (maxDischargeDepth := 16) only [*, vX, ↓vD, vU, ↓vMd, vMu, vZ, seval]) | (simp (disch := first | assumption | omega | rfl | exact fun _ => rfl) only [vP]) | ((with_reducible first | apply gsnd | apply csnd | apply gsd | apply csd | apply gsn | apply csn | apply gs | apply cs_) <;> intro _) | (with_reducible refine objQ_i (fun _ _ => ?_); repeat with_reducible refine imp_i (fun _ => ?_))))
    all_goals first | done | (refine ⟨fun i o e => ?_, fun _ h => h⟩; revert e; simp only [St.ins, St.del, add_objs, kill_objs]; (repeat' split); all_goals (first | exact id | (intros; contradiction) | (intros; subst_vars; contradiction) | (intros; simp_all; done) | (intros; subst_vars; simp_all; done))) | trace_state
theorem scope_out {P : Program} {Z : Im} {c rest : VCode} {l : Nat} {Q : Exit → Fr → St → Prop} {fr : Fr} {st : St} (h : vwp P c Z none (jumpsQ l (fun _ _ => False) Q) fr st) : vwp P (.scope c l rest) Z none Q fr st :=
  ⟨rfl, fun _ _ => False, fun _ _ => 0, h, fun _ _ h => h.elim⟩
theorem takeJ_drop (xs : List Job) {k : Nat} (h : k < xs.length) (need : Int) : takeJ (xs.drop k) need = if need ≤ 0 then [] else xs[k].id :: takeJ (xs.drop (k + 1)) (need - xs[k].g) := by
  rw [List.drop_eq_getElem_cons h]; rfl
theorem Victims_p (l : List Job) (hl : l.length ≤ 2000000) (t : Tok) (need : Int) (hn : -9223372036854775808 ≤ need ∧ need ≤ 9223372036854775807) : VPure Try.prog 10 [.sl (l.map Job.a) t, .int .i64 need] (.tup [.sl ((victimsF l need).1.map nu) .no, .int .i64 (victimsF l need).2]) := by
  refine VPure.tokT (fun Z st => ?_)
  have hM := may_p l hl t
  have hS := Sum_p l hl t
  have hR := running_v l (by omega) t
  have hrl := runJ_len l
  obtain ⟨E, hE⟩ : ∃ E, victimsF l need = E := ⟨_, rfl⟩
  have HE : Hid (E = if allJ l [] then (if sumJ (runJ l) < need then ([], 6) else (takeJ (runJ l) need, 0)) else ([], 2)) := ⟨hE.symm⟩
  rw [hE]
  obtain ⟨xs, hxs⟩ : ∃ xs, runJ l = xs := ⟨_, rfl⟩
  obtain ⟨a, ha⟩ : ∃ a, allJ l [] = a := ⟨_, rfl⟩
  obtain ⟨s, hs⟩ : ∃ a, sumJ xs = a := ⟨_, rfl⟩
  rw [hxs, hs] at HE hS
  rw [ha] at HE hM
  rw [hxs] at hR hrl
  clear hxs ha hs hE
  refine VCalls.of v_preempt_Victims_ok (Nat.le_of_ble_eq_true rfl) ?_
  simp only [v_preempt_Victims, ↓vD, vU, ↓vMd, vMu, vZ, seval, k_app, k_slc1]
  refine scope_out ?_
  cases a
  · obtain rfl : E = ([], 2) := by rw [HE.out]; rfl
    clear HE
    (repeat' (first | (simp (maxDischargeDepth := 16) only [*, vX, ↓vD, vU, ↓vMd, vMu, vZ, seval]) | (simp (disch := first | assumption | omega | rfl | exact fun _ => rfl) only [vP]) | ((with_reducible first | apply gsnd | apply csnd | apply gsd | apply csd | apply gsn | apply csn | apply gs | apply cs_) <;> intro _) | (with_reducible refine objQ_i (fun _ _ => ?_); repeat with_reducible refine imp_i (fun _ => ?_)) | ((try with_reducible refine appK_a ?_); first | (with_reducible refine appD_F (by refine ⟨?_, ?_, ?_, ?_⟩ <;> (first | assumption | omega | exact St.has_add (by assumption) | (simp only [ins_has]; exact St.has_add (by assumption)) | (simp only [ins_has, fresh_ins, kill_ins, add_ins] at *; exact St.has_add (by assumption)) | (simp only [*, ins_has, has_full, St.has_add]; done) | (simp [-List.map_take, -List.map_drop, or_imp, forall_and, Seg.a, Vec.a, Leg.a, num, okEl, cells_agg, cells_int, cells_sl, cells_bool, AV.isCell]; done) | (simp; omega))) (fun _ _ => ?_)) | (with_reducible refine appD_V (by refine ⟨?_, ?_, ?_, ?_, ?_⟩ <;> (first | assumption | omega | exact St.has_add (by assumption) | (simp only [ins_has]; exact St.has_add (by assumption)) | (simp only [ins_has, fresh_ins, kill_ins, add_ins] at *; exact St.has_add (by assumption)) | (simp only [*, ins_has, has_full, St.has_add]; done) | (simp [-List.map_take, -List.map_drop, or_imp, forall_and, Seg.a, Vec.a, Leg.a, num, okEl, cells_agg, cells_int, cells_sl, cells_bool, AV.isCell]; done) | (simp; omega))) (fun _ _ => ?_))) | (with_reducible refine freshQ_i (fun _ _ => ?_)) | (with_reducible first | refine callH_use (hM) ?_ | refine pureQ_use (hM) ?_)))
    all_goals first | done | exact ⟨st, St.le.refl _, .full, rfl, rfl⟩ | trace_state
  by_cases hsn : s < need
  · obtain rfl : E = ([], 6) := by rw [HE.out, if_pos rfl, if_pos hsn]
    clear HE
    (repeat' (first | (simp (maxDischargeDepth := 16) only [*, vX, ↓vD, vU, ↓vMd, vMu, vZ, seval]) | (simp (disch := first | assumption | omega | rfl | exact fun _ => rfl) only [vP]) | ((with_reducible first | apply gsnd | apply csnd | apply gsd | apply csd | apply gsn | apply csn | apply gs | apply cs_) <;> intro _) | (with_reducible refine objQ_i (fun _ _ => ?_); repeat with_reducible refine imp_i (fun _ => ?_)) | ((try with_reducible refine appK_a ?_); first | (with_reducible refine appD_F (by refine ⟨?_, ?_, ?_, ?_⟩ <;> (first | assumption | omega | exact St.has_add (by assumption) | (simp only [ins_has]; exact St.has_add (by assumption)) | (simp only [ins_has, fresh_ins, kill_ins, add_ins] at *; exact St.has_add (by assumption)) | (simp only [*, ins_has, has_full, St.has_add]; done) | (simp [-List.map_take, -List.map_drop, or_imp, forall_and, Seg.a, Vec.a, Leg.a, num, okEl, cells_agg, cells_int, cells_sl, cells_bool, AV.isCell]; done) | (simp; omega))) (fun _ _ => ?_)) | (with_reducible refine appD_V (by refine ⟨?_, ?_, ?_, ?_, ?_⟩ <;> (first | assumption | omega | exact St.has_add (by assumption) | (simp only [ins_has]; exact St.has_add (by assumption)) | (simp only [ins_has, fresh_ins, kill_ins, add_ins] at *; exact St.has_add (by assumption)) | (simp only [*, ins_has, has_full, St.has_add]; done) | (simp [-List.map_take, -List.map_drop, or_imp, forall_and, Seg.a, Vec.a, Leg.a, num, okEl, cells_agg, cells_int, cells_sl, cells_bool, AV.isCell]; done) | (simp; omega))) (fun _ _ => ?_))) | (with_reducible refine freshQ_i (fun _ _ => ?_)) | (with_reducible first | refine callH_use (hM) ?_ | refine pureQ_use (hM) ?_) | (with_reducible first | refine callH_use (hS) ?_ | refine pureQ_use (hS) ?_)))
    all_goals first | done | exact ⟨st, St.le.refl _, .full, rfl, rfl⟩ | trace_state
  obtain rfl : E = (takeJ xs need, 0) := by rw [HE.out, if_pos rfl, if_neg hsn]
  clear HE
  obtain ⟨n1, n2⟩ := hn
  (repeat' (first | (simp (maxDischargeDepth := 16) only [*, vX, ↓vD, vU, ↓vMd, vMu, vZ, seval]) | (simp (disch := first | assumption | omega | rfl | exact fun _ => rfl) only [vP]) | ((with_reducible first | apply gsnd | apply csnd | apply gsd | apply csd | apply gsn | apply csn | apply gs | apply cs_) <;> intro _) | (with_reducible refine objQ_i (fun _ _ => ?_); repeat with_reducible refine imp_i (fun _ => ?_)) | ((try with_reducible refine appK_a ?_); first | (with_reducible refine appD_F (by refine ⟨?_, ?_, ?_, ?_⟩ <;> (first | assumption | omega | exact St.has_add (by assumption) | (simp only [ins_has]; exact St.has_add (by assumption)) | (simp only [ins_has, fresh_ins, kill_ins, add_ins] at *; exact St.has_add (by assumption)) | (simp only [*, ins_has, has_full, St.has_add]; done) | (simp [-List.map_take, -List.map_drop, or_imp, forall_and, Seg.a, Vec.a, Leg.a, num, okEl, cells_agg, cells_int, cells_sl, cells_bool, AV.isCell]; done) | (simp; omega))) (fun _ _ => ?_)) | (with_reducible refine appD_V (by refine ⟨?_, ?_, ?_, ?_, ?_⟩ <;> (first | assumption | omega | exact St.has_add (by assumption) | (simp only [ins_has]; exact St.has_add (by assumption)) | (simp only [ins_has, fresh_ins, kill_ins, add_ins] at *; exact St.has_add (by assumption)) | (simp only [*, ins_has, has_full, St.has_add]; done) | (simp [-List.map_take, -List.map_drop, or_imp, forall_and, Seg.a, Vec.a, Leg.a, num, okEl, cells_agg, cells_int, cells_sl, cells_bool, AV.isCell]; done) | (simp; omega))) (fun _ _ => ?_))) | (with_reducible refine freshQ_i (fun _ _ => ?_)) | (with_reducible first | refine callH_use (hM) ?_ | refine pureQ_use (hM) ?_) | (with_reducible first | refine callH_use (hS) ?_ | refine pureQ_use (hS) ?_) | (with_reducible first | refine callH_use (hR) ?_ | refine pureQ_use (hR) ?_)))
  refine loopf_of (len := xs.length) (by simp only [asgL, dsts, List.cons_append, List.nil_append, List.append_nil]; rfl) (by simp only [noR, Bool.and_true, Bool.and_false]; rfl) (by omega) (fun k fr s => ∃ acc tk need', Ours 1 st s tk ∧ fr.t 21 = .int .i64 k ∧ fr.t 6 = .sl (acc.map nu) tk ∧ fr.t 1 = .int .i64 need' ∧ acc.length ≤ k ∧ (-9223372036854775808 ≤ need' ∧ need' ≤ 9223372036854775807) ∧ Hid (takeJ xs need = acc ++ takeJ (xs.drop k) need')) ?_ ?_ ?_
  · exact ⟨[], .full, need, Ours.full 1 st, by simp [↓vD, vU, ↓vMd, vMu, vZ, seval, k_app, k_slc1], by simp [↓vD, vU, ↓vMd, vMu, vZ, seval, k_app, k_slc1], by simp [↓vD, vU, ↓vMd, vMu, vZ, seval, k_app, k_slc1], by simp, ⟨n1, n2⟩, ⟨rfl⟩⟩
  · rintro k fr s' hk hwk hfr hd ⟨acc, tk, nd, ho, h21, h6, h1, hal, ⟨d1, d2⟩, HA⟩
    have hts := ho.has
    have hun := ho.under
    have hal1 := nu_all acc
    have hst := takeJ_drop xs hk nd
    obtain ⟨x, hx⟩ : ∃ x, xs[k] = x := ⟨_, rfl⟩
    rw [hx] at hst
    have hg := x.h
    have hw1 : IntKind.i64.wrap x.g = x.g := wrap_i64 _ (by omega) (by omega)
    by_cases h0 : nd ≤ 0
    · rw [if_pos h0] at hst
      have HB : Hid (takeJ xs need = acc) := ⟨by rw [HA.out, hst, List.append_nil]⟩
      clear HA hst
      (repeat' (first | (simp (maxDischargeDepth := 16) only [*, Job.a, nu, vX, ↓vD, vU, ↓vMd, vMu, vZ, seval]) | (simp (disch := first | assumption | omega | rfl | exact fun _ => rfl) only [Job.a, nu, vP]) | ((with_reducible first | apply gsnd | apply csnd | apply gsd | apply csd | apply gsn | apply csn | apply gs | apply cs_) <;> intro _) | (with_reducible refine objQ_i (fun _ _ => ?_); repeat with_reducible refine imp_i (fun _ => ?_)) | ((try with_reducible refine appK_a ?_); first | (with_reducible refine appD_F (by refine ⟨?_, ?_, ?_, ?_⟩ <;> (first | assumption | omega | exact St.has_add (by assumption) | (simp only [ins_has]; exact St.has_add (by assumption)) | (simp only [ins_has, fresh_ins, kill_ins, add_ins] at *; exact St.has_add (by assumption)) | (simp only [*, ins_has, has_full, St.has_add]; done) | (simp [-List.map_take, -List.map_drop, or_imp, forall_and, Seg.a, Vec.a, Leg.a, num, okEl, cells_agg, cells_int, cells_sl, cells_bool, AV.isCell]; done) | (simp; omega))) (fun _ _ => ?_)) | (with_reducible refine appD_V (by refine ⟨?_, ?_, ?_, ?_, ?_⟩ <;> (first | assumption | omega | exact St.has_add (by assumption) | (simp only [ins_has]; exact St.has_add (by assumption)) | (simp only [ins_has, fresh_ins, kill_ins, add_ins] at *; exact St.has_add (by assumption)) | (simp only [*, ins_has, has_full, St.has_add]; done) | (simp [-List.map_take, -List.map_drop, or_imp, forall_and, Seg.a, Vec.a, Leg.a, num, okEl, cells_agg, cells_int, cells_sl, cells_bool, AV.isCell]; done) | (simp; omega))) (fun _ _ => ?_))) | (with_reducible refine freshQ_i (fun _ _ => ?_)) | (with_reducible first | refine callH_use (hM) ?_ | refine pureQ_use (hM) ?_)))
      rename_i b8 hb8
      refine ⟨st, hun.trans (by (refine ⟨fun i o e => ?_, fun _ h => h⟩; revert e; simp only [St.ins, St.del, add_objs, kill_objs]; (repeat' split); all_goals (first | exact id | (intros; contradiction) | (intros; subst_vars; contradiction) | (intros; simp_all; done) | (intros; subst_vars; simp_all; done)))), tk, ?_, rfl⟩
      rw [HB.out]
    · rw [if_neg h0] at hst
      have HB : Hid (takeJ xs need = acc ++ [x.id] ++ takeJ (xs.drop (k + 1)) (nd - x.g)) := ⟨by rw [HA.out, hst]; simp⟩
      have hw2 : IntKind.i64.wrap (nd - x.g) = nd - x.g := wrap_i64 _ (by omega) (by omega)
      clear HA hst
      (repeat' (first | (simp (maxDischargeDepth := 16) only [*, Job.a, nu, vX, ↓vD, vU, ↓vMd, vMu, vZ, seval]) | (simp (disch := first | assumption | omega | rfl | exact fun _ => rfl) only [Job.a, nu, vP]) | ((with_reducible first | apply gsnd | apply csnd | apply gsd | apply csd | apply gsn | apply csn | apply gs | apply cs_) <;> intro _) | (with_reducible refine objQ_i (fun _ _ => ?_); repeat with_reducible refine imp_i (fun _ => ?_)) | ((try with_reducible refine appK_a ?_); first | (with_reducible refine appD_F (by refine ⟨?_, ?_, ?_, ?_⟩ <;> (first | assumption | omega | exact St.has_add (by assumption) | (simp only [ins_has]; exact St.has_add (by assumption)) | (simp only [ins_has, fresh_ins, kill_ins, add_ins] at *; exact St.has_add (by assumption)) | (simp only [*, ins_has, has_full, St.has_add]; done) | (simp [-List.map_take, -List.map_drop, or_imp, forall_and, Seg.a, Vec.a, Leg.a, num, okEl, cells_agg, cells_int, cells_sl, cells_bool, AV.isCell]; done) | (simp; omega))) (fun _ _ => ?_)) | (with_reducible refine appD_V (by refine ⟨?_, ?_, ?_, ?_, ?_⟩ <;> (first | assumption | omega | exact St.has_add (by assumption) | (simp only [ins_has]; exact St.has_add (by assumption)) | (simp only [ins_has, fresh_ins, kill_ins, add_ins] at *; exact St.has_add (by assumption)) | (simp only [*, ins_has, has_full, St.has_add]; done) | (simp [-List.map_take, -List.map_drop, or_imp, forall_and, Seg.a, Vec.a, Leg.a, num, okEl, cells_agg, cells_int, cells_sl, cells_bool, AV.isCell]; done) | (simp; omega))) (fun _ _ => ?_))) | (with_reducible refine freshQ_i (fun _ _ => ?_)) | (with_reducible first | refine callH_use (hM) ?_ | refine pureQ_use (hM) ?_)))
      rename_i b8 hb8 t1 hf1
      have ho3 := ho.next (t' := t1) (by simpa only [kill_ins, fresh_ins] using hf1)
      exact ⟨_, by (refine ⟨fun i o e => ?_, fun _ h => h⟩; revert e; simp only [St.ins, St.del, add_objs, kill_objs]; (repeat' split); all_goals (first | exact id | (intros; contradiction) | (intros; subst_vars; contradiction) | (intros; simp_all; done) | (intros; subst_vars; simp_all; done))), acc ++ [x.id], t1, nd - x.g, ho3, by simp [nu], rfl, by simp; omega, ⟨by omega, by omega⟩, HB⟩
  · rintro fr s' hfr hd ⟨acc, tk, nd, ho, h21, h6, h1, hal, ⟨d1, d2⟩, HA⟩
    rw [List.drop_length] at HA
    have hun := ho.under
    (repeat' (first | (simp (maxDischargeDepth := 16) only [*, vX, ↓vD, vU, ↓vMd, vMu, vZ, seval]) | (simp (disch := first | assumption | omega | rfl | exact fun _ => rfl) only [vP]) | ((with_reducible first | apply gsnd | apply csnd | apply gsd | apply csd | apply gsn | apply csn | apply gs | apply cs_) <;> intro _) | (with_reducible refine objQ_i (fun _ _ => ?_); repeat with_reducible refine imp_i (fun _ => ?_)) | ((try with_reducible refine appK_a ?_); first | (with_reducible refine appD_F (by refine ⟨?_, ?_, ?_, ?_⟩ <;> (first | assumption | omega | exact St.has_add (by assumption) | (simp only [ins_has]; exact St.has_add (by assumption)) | (simp only [ins_has, fresh_ins, kill_ins, add_ins] at *; exact St.has_add (by assumption)) | (simp only [*, ins_has, has_full, St.has_add]; done) | (simp [-List.map_take, -List.map_drop, or_imp, forall_and, Seg.a, Vec.a, Leg.a, num, okEl, cells_agg, cells_int, cells_sl, cells_bool, AV.isCell]; done) | (simp; omega))) (fun _ _ => ?_)) | (with_reducible refine appD_V (by refine ⟨?_, ?_, ?_, ?_, ?_⟩ <;> (first | assumption | omega | exact St.has_add (by assumption) | (simp only [ins_has]; exact St.has_add (by assumption)) | (simp only [ins_has, fresh_ins, kill_ins, add_ins] at *; exact St.has_add (by assumption)) | (simp only [*, ins_has, has_full, St.has_add]; done) | (simp [-List.map_take, -List.map_drop, or_imp, forall_and, Seg.a, Vec.a, Leg.a, num, okEl, cells_agg, cells_int, cells_sl, cells_bool, AV.isCell]; done) | (simp; omega))) (fun _ _ => ?_))) | (with_reducible refine freshQ_i (fun _ _ => ?_))))
    refine ⟨st, hun, tk, ?_, rfl⟩
    rw [HA.out]; simp [takeJ]
end Go.Proofs.Ytglekfgoadehbaa.V
end
section
/- The compiled functions of the package liveryref25 (printed by Print.lean of this work). -/
namespace Go.Proofs.Ytglekfgoadehbaa.V
open Go Go.Proofs
def v_liveryref25_Same : VFn := ⟨.seq (.reg [⟨some 4, .mov (.c (.bool false)), none, [], []⟩])
(.seq (.seq (.reg [⟨some 6, .mov (.t 0), none, [], []⟩,
 ⟨some 7, .len (.t 6), none, [0], []⟩,
 ⟨some 8, .mov (.t 1), none, [], []⟩,
 ⟨some 9, .len (.t 8), none, [2], []⟩,
 ⟨some 10, .bin .neq (.t 7) (.t 9), none, [1, 3], []⟩])
(.cond (.t 10)
 (.seq (.reg [⟨some 4, .mov (.c (.bool false)), none, [], []⟩])
 (.ret))
 (.skip)))
(.seq (.seq (.reg [⟨some 5, .mov (.c (.int .i64 0)), none, [], []⟩])
(.block 0
 (.loop
 (.seq (.seq (.reg [⟨some 11, .mov (.t 5), none, [], []⟩,
 ⟨some 12, .mov (.t 0), none, [], []⟩,
 ⟨some 13, .len (.t 12), none, [1], []⟩,
 ⟨some 14, .bin .lss (.t 11) (.t 13), none, [0, 2], []⟩])
 (.cond (.t 14)
 (.skip)
 (.exit 0)))
 (.seq (.block 1
 (.seq (.dreg [⟨some 17, .mov (.t 0), none, [], []⟩,
 ⟨some 18, .mov (.t 5), none, [], []⟩,
 ⟨some 19, .iad 1 (.t 17) (.t 18), none, [0, 1], []⟩,
 ⟨some 20, .load 1 false (.t 19), none, [2], []⟩,
 ⟨some 21, .mov (.t 1), none, [], []⟩,
 ⟨some 22, .mov (.t 5), none, [], []⟩,
 ⟨some 23, .iad 1 (.t 21) (.t 22), none, [4, 5], []⟩,
 ⟨some 24, .load 1 false (.t 23), none, [6], []⟩,
 ⟨some 25, .bin .neq (.t 20) (.t 24), none, [3, 7], []⟩])
 (.cond (.t 25)
 (.seq (.reg [⟨some 4, .mov (.c (.bool false)), none, [], []⟩])
 (.ret))
 (.skip))))
 (.reg [⟨some 15, .mov (.t 5), none, [], []⟩,
 ⟨some 16, .bin .add (.t 15) (.c (.int .i64 1)), none, [0], []⟩,
 ⟨some 5, .mov (.t 16), none, [1, 0, 1], []⟩]))))))
(.seq (.reg [⟨some 4, .mov (.c (.bool true)), none, [], []⟩])
(.ret)))),
[.t 4], 26⟩
theorem v_liveryref25_Same_ok : compF Try.prog 14 = some v_liveryref25_Same := by kernel_rfl
end Go.Proofs.Ytglekfgoadehbaa.V
end
section
/- liveryref25. -/
namespace Go.Proofs.Ytglekfgoadehbaa.V
open Go Go.Proofs Go.Proofs.Ytglekfgoadehbaa.SP
set_option maxRecDepth 100000
set_option maxHeartbeats 4000000
theorem Same_25 (a b : List Int) (ha : a.length ≤ 1000000000) (t t' : Tok) : VPure Try.prog 14 [.sl (a.map nu) t, .sl (b.map nu) t'] (.bool (a == b)) := by
  refine VPure.of v_liveryref25_Same_ok (Nat.le_of_ble_eq_true rfl) (fun Z st => ?_)
  simp only [v_liveryref25_Same, ↓vD, vU, ↓vMd, vMu, vZ, seval, k_app, k_slc1]
  (repeat' (first | (simp (maxDischargeDepth := 16) only [*, vX, ↓vD, vU, ↓vMd, vMu, vZ, seval]) | (simp (disch := first | assumption | omega | rfl | exact fun _ => rfl) only [vP]) | ((with_reducible first | apply gsnd | apply csnd | apply gsd | apply csd | apply gsn | apply csn | apply gs | apply cs_) <;> intro _)))
  · rename_i h
    have hne : a ≠ b := fun e => by subst e; simp at h
    simp [hne]
  · rename_i h
    have hl : a.length = b.length := by first | omega | (simp at h; omega)
    clear h
    refine loopf_of (len := a.length) (by simp only [asgL, dsts, List.cons_append, List.nil_append, List.append_nil]; rfl) (by simp only [noR, Bool.and_true, Bool.and_false]; rfl) (by omega) (fun k fr s => s = st ∧ fr.t 5 = .int .i64 k ∧ a.take k = b.take k) ?_ ?_ ?_
    · simp [↓vD, vU, ↓vMd, vMu, vZ, seval, k_app, k_slc1]
    · rintro k fr s hk hw hfr hd ⟨rfl, h13, hp⟩
      have hk' : k < b.length := by omega
      have HP := Hid.mk hp
      clear hp
      (repeat' (first | (simp (maxDischargeDepth := 16) only [*, nu, vX, ↓vD, vU, ↓vMd, vMu, vZ, seval]) | (simp (disch := first | assumption | omega | rfl | exact fun _ => rfl) only [nu, vP]) | ((with_reducible first | apply gsnd | apply csnd | apply gsd | apply csd | apply gsn | apply csn | apply gs | apply cs_) <;> intro _)))
      · rename_i hc
        have hne : a ≠ b := fun e => by subst e; simp at hc
        simp [hne]
      · rename_i hc
        have he : a[k] = b[k] := by simpa using hc
        rw [List.take_add_one, List.take_add_one, HP.out, List.getElem?_eq_getElem hk, List.getElem?_eq_getElem hk', he]
    · rintro fr s hfr hd ⟨rfl, h13, hp⟩
      (repeat' (first | (simp (maxDischargeDepth := 16) only [*, vX, ↓vD, vU, ↓vMd, vMu, vZ, seval]) | (simp (disch := first | assumption | omega | rfl | exact fun _ => rfl) only [vP]) | ((with_reducible first | apply gsnd | apply csnd | apply gsd | apply csd | apply gsn | apply csn | apply gs | apply cs_) <;> intro _)))
      rw [List.take_length, hl, List.take_length] at hp
      simp [hp]
end Go.Proofs.Ytglekfgoadehbaa.V
end
section
/- liveryref25.Order, Victims. -/
namespace Go.Proofs.Ytglekfgoadehbaa.V
open Go Go.Proofs Go.Proofs.Ytglekfgoadehbaa.SP
set_option maxRecDepth 100000
set_option maxHeartbeats 4000000
end Go.Proofs.Ytglekfgoadehbaa.V
end
section
/- The compiled functions of the package liverylaw25 (printed by Print.lean of this work). -/
namespace Go.Proofs.Ytglekfgoadehbaa.V
open Go Go.Proofs
def v_liverylaw25_PreemptMore : VFn := ⟨.seq (.reg [⟨some 6, .mov (.c (.bool false)), none, [], []⟩])
(.seq (.reg [⟨some 19, .mov (.t 0), none, [], []⟩,
 ⟨some 20, .mov (.t 1), none, [], []⟩,
 ⟨some 21, .call 10 [(.t 19), (.t 20)], none, [0, 1], []⟩,
 ⟨some 18, .mov (.t 21), none, [2], []⟩,
 ⟨some 22, .ext (.t 18) 0, none, [3], []⟩,
 ⟨some 23, .ext (.t 18) 1, none, [3], []⟩,
 ⟨some 7, .mov (.t 22), none, [4, 2, 0, 1, 2, 3, 4], []⟩,
 ⟨some 8, .mov (.t 23), none, [5, 6, 0, 1, 2, 3, 4, 5, 6], []⟩])
(.seq (.seq (.reg [⟨some 24, .mov (.t 0), none, [], []⟩,
 ⟨some 25, .len (.t 24), none, [0], []⟩,
 ⟨some 26, .bin .gtr (.t 25) (.c (.int .i64 100)), none, [1], []⟩,
 ⟨some 27, .mov (.t 26), none, [2], []⟩,
 ⟨some 28, .mov (.t 8), some (27, false), [3], []⟩,
 ⟨some 29, .bin .neq (.t 28) (.c (.int .i64 0)), some (27, false), [4, 3], []⟩,
 ⟨some 30, .pick (.t 27) (.c (.bool true)) (.t 29), none, [3, 5], []⟩,
 ⟨some 31, .mov (.t 30), none, [6, 3], []⟩,
 ⟨some 32, .mov (.t 1), some (31, false), [7], []⟩,
 ⟨some 33, .bin .gtr (.t 32) (.c (.int .i64 1099511627776)), some (31, false), [8, 7], []⟩,
 ⟨some 34, .pick (.t 31) (.c (.bool true)) (.t 33), none, [7, 9], []⟩])
(.cond (.t 34)
 (.seq (.reg [⟨some 35, .call 9 [], none, [], []⟩,
 ⟨some 6, .mov (.t 35), none, [0, 0, 0], []⟩])
 (.ret))
 (.skip)))
(.seq (.reg [⟨some 37, .mov (.t 0), none, [], []⟩,
 ⟨some 38, .mov (.t 1), none, [], []⟩,
 ⟨some 39, .mov (.t 2), none, [], []⟩,
 ⟨some 40, .bin .rem (.t 39) (.c (.int .u32 1048576)), none, [2], []⟩,
 ⟨some 41, .conv .i64 (.t 40), none, [3], []⟩,
 ⟨some 42, .bin .add (.t 38) (.t 41), none, [1, 4], []⟩,
 ⟨some 43, .call 10 [(.t 37), (.t 42)], none, [0, 5], []⟩,
 ⟨some 36, .mov (.t 43), none, [6], []⟩,
 ⟨some 44, .ext (.t 36) 0, none, [7], []⟩,
 ⟨some 45, .ext (.t 36) 1, none, [7], []⟩,
 ⟨some 9, .mov (.t 44), none, [8, 6, 0, 1, 2, 3, 4, 5, 6, 7, 8], []⟩,
 ⟨some 10, .mov (.t 45), none, [9, 10, 0, 1, 2, 3, 4, 5, 6, 7, 8, 9, 10], []⟩])
(.seq (.seq (.reg [⟨some 46, .mov (.t 10), none, [], []⟩,
 ⟨some 47, .bin .eql (.t 46) (.c (.int .i64 0)), none, [0], []⟩])
(.cond (.t 47)
 (.seq (.reg [⟨some 48, .mov (.t 9), none, [], []⟩,
 ⟨some 49, .len (.t 48), none, [0], []⟩,
 ⟨some 50, .mov (.t 7), none, [], []⟩,
 ⟨some 51, .len (.t 50), none, [2], []⟩,
 ⟨some 52, .bin .lss (.t 49) (.t 51), none, [1, 3], []⟩,
 ⟨some 53, .mov (.t 52), none, [4], []⟩,
 ⟨some 54, .mov (.t 9), some (53, false), [5], []⟩,
 ⟨some 55, .mov (.t 7), some (53, false), [5], []⟩,
 ⟨some 56, .len (.t 55), some (53, false), [7, 5], []⟩,
 ⟨some 57, .slc 1 (.t 54) none (some (.t 56)) none, some (53, false), [6, 8, 5], []⟩,
 ⟨some 58, .mov (.t 7), some (53, false), [5], []⟩,
 ⟨some 59, .call 14 [(.t 57), (.t 58)], some (53, false), [9, 10, 5, 5], []⟩,
 ⟨some 60, .un .not (.t 59), some (53, false), [11, 5], []⟩,
 ⟨some 61, .pick (.t 53) (.c (.bool true)) (.t 60), none, [5, 12], []⟩])
 (.cond (.t 61)
 (.seq (.reg [⟨some 6, .mov (.c (.bool false)), none, [], []⟩])
 (.ret))
 (.skip)))
 (.seq (.reg [⟨some 62, .mov (.t 10), none, [], []⟩,
 ⟨some 63, .bin .neq (.t 62) (.c (.int .i64 6)), none, [0], []⟩])
 (.cond (.t 63)
 (.seq (.reg [⟨some 6, .mov (.c (.bool false)), none, [], []⟩])
 (.ret))
 (.skip)))))
(.seq (.reg [⟨some 11, .mov (.c (.sl [] .full)), none, [], []⟩,
 ⟨some 12, .mov (.c (.sl [] .full)), none, [0], []⟩])
(.seq (.seq (.reg [⟨some 64, .mov (.t 0), none, [], []⟩,
 ⟨some 65, .len (.t 64), none, [0], []⟩,
 ⟨some 66, .bin .sub (.t 65) (.c (.int .i64 1)), none, [1], []⟩,
 ⟨some 13, .mov (.t 66), none, [2, 0, 1, 2], []⟩])
(.block 0
 (.loop
 (.seq (.seq (.reg [⟨some 67, .mov (.t 13), none, [], []⟩,
 ⟨some 68, .bin .geq (.t 67) (.c (.int .i64 0)), none, [0], []⟩])
 (.cond (.t 68)
 (.skip)
 (.exit 0)))
 (.seq (.block 1
 (.seq (.reg [⟨some 71, .mov (.t 11), none, [], []⟩,
 ⟨some 72, .mov (.t 0), none, [], []⟩,
 ⟨some 73, .mov (.t 13), none, [], []⟩,
 ⟨some 74, .iad 5 (.t 72) (.t 73), none, [1, 2], []⟩,
 ⟨some 75, .load 5 true (.t 74), none, [3], []⟩,
 ⟨some 76, .bsl 5 [(.t 75)], none, [4], []⟩,
 ⟨some 77, .app 5 48 (.t 71) (.t 76), none, [0, 5], []⟩,
 ⟨some 11, .mov (.t 77), none, [6, 6, 0, 1, 2, 3, 4, 5, 6], []⟩])
 (.seq (.reg [⟨some 78, .mov (.t 0), none, [], []⟩,
 ⟨some 79, .mov (.t 13), none, [], []⟩,
 ⟨some 80, .iad 5 (.t 78) (.t 79), none, [0, 1], []⟩,
 ⟨some 81, .fad 4 (.t 80), none, [2], []⟩,
 ⟨some 82, .load 1 false (.t 81), none, [3], []⟩,
 ⟨some 83, .bin .gtr (.t 82) (.c (.int .i64 0)), none, [4], []⟩])
 (.cond (.t 83)
 (.reg [⟨some 84, .mov (.t 12), none, [], []⟩,
 ⟨some 85, .mov (.t 0), none, [], []⟩,
 ⟨some 86, .mov (.t 13), none, [], []⟩,
 ⟨some 87, .iad 5 (.t 85) (.t 86), none, [1, 2], []⟩,
 ⟨some 88, .load 5 true (.t 87), none, [3], []⟩,
 ⟨some 89, .bsl 5 [(.t 88)], none, [4], []⟩,
 ⟨some 90, .app 5 48 (.t 84) (.t 89), none, [0, 5], []⟩,
 ⟨some 12, .mov (.t 90), none, [6, 6, 0, 1, 2, 3, 4, 5, 6], []⟩])
 (.skip)))))
 (.reg [⟨some 69, .mov (.t 13), none, [], []⟩,
 ⟨some 70, .bin .sub (.t 69) (.c (.int .i64 1)), none, [0], []⟩,
 ⟨some 13, .mov (.t 70), none, [1, 0, 1], []⟩]))))))
(.seq (.reg [⟨some 92, .mov (.t 11), none, [], []⟩,
 ⟨some 93, .mov (.t 1), none, [], []⟩,
 ⟨some 94, .call 10 [(.t 92), (.t 93)], none, [0, 1], []⟩,
 ⟨some 91, .mov (.t 94), none, [2], []⟩,
 ⟨some 95, .ext (.t 91) 0, none, [3], []⟩,
 ⟨some 96, .ext (.t 91) 1, none, [3], []⟩,
 ⟨some 14, .mov (.t 95), none, [4, 2, 0, 1, 2, 3, 4], []⟩,
 ⟨some 15, .mov (.t 96), none, [5, 6, 0, 1, 2, 3, 4, 5, 6], []⟩])
(.seq (.reg [⟨some 98, .mov (.t 12), none, [], []⟩,
 ⟨some 99, .mov (.t 1), none, [], []⟩,
 ⟨some 100, .call 10 [(.t 98), (.t 99)], none, [0, 1], []⟩,
 ⟨some 97, .mov (.t 100), none, [2], []⟩,
 ⟨some 101, .ext (.t 97) 0, none, [3], []⟩,
 ⟨some 102, .ext (.t 97) 1, none, [3], []⟩,
 ⟨some 16, .mov (.t 101), none, [4, 2, 0, 1, 2, 3, 4], []⟩,
 ⟨some 17, .mov (.t 102), none, [5, 6, 0, 1, 2, 3, 4, 5, 6], []⟩])
(.seq (.reg [⟨some 103, .mov (.t 15), none, [], []⟩,
 ⟨some 104, .bin .eql (.t 103) (.c (.int .i64 0)), none, [0], []⟩,
 ⟨some 105, .mov (.t 104), none, [1], []⟩,
 ⟨some 106, .mov (.t 17), some (105, true), [2], []⟩,
 ⟨some 107, .bin .eql (.t 106) (.c (.int .i64 0)), some (105, true), [3, 2], []⟩,
 ⟨some 108, .pick (.t 105) (.t 107) (.c (.bool false)), none, [2, 4], []⟩,
 ⟨some 109, .mov (.t 108), none, [5, 2], []⟩,
 ⟨some 110, .mov (.t 14), some (109, true), [6], []⟩,
 ⟨some 111, .mov (.t 7), some (109, true), [6], []⟩,
 ⟨some 112, .call 14 [(.t 110), (.t 111)], some (109, true), [7, 8, 6, 6], []⟩,
 ⟨some 113, .pick (.t 109) (.t 112) (.c (.bool false)), none, [6, 9], []⟩,
 ⟨some 114, .mov (.t 113), none, [10, 9], []⟩,
 ⟨some 115, .mov (.t 16), some (114, true), [11], []⟩,
 ⟨some 116, .mov (.t 7), some (114, true), [11], []⟩,
 ⟨some 117, .call 14 [(.t 115), (.t 116)], some (114, true), [12, 13, 11, 11], []⟩,
 ⟨some 118, .pick (.t 114) (.t 117) (.c (.bool false)), none, [11, 14], []⟩,
 ⟨some 119, .mov (.t 118), none, [15, 14], []⟩,
 ⟨some 120, .mov (.t 11), some (119, true), [16], []⟩,
 ⟨some 121, .call 15 [(.t 120)], some (119, true), [17, 16, 16], []⟩,
 ⟨some 122, .mov (.t 0), some (119, true), [16], []⟩,
 ⟨some 123, .call 15 [(.t 122)], some (119, true), [19, 18, 16], []⟩,
 ⟨some 124, .call 14 [(.t 121), (.t 123)], some (119, true), [18, 20, 20, 16], []⟩,
 ⟨some 125, .pick (.t 119) (.t 124) (.c (.bool false)), none, [16, 21], []⟩,
 ⟨some 126, .mov (.t 125), none, [22, 21], []⟩,
 ⟨some 127, .call 9 [], some (126, true), [23, 23], []⟩,
 ⟨some 128, .pick (.t 126) (.t 127) (.c (.bool false)), none, [23, 24], []⟩,
 ⟨some 6, .mov (.t 128), none, [25, 24, 0, 1, 2, 3, 4, 5, 6, 7, 8, 9, 10, 11, 12, 13, 14, 15, 16, 17, 18, 19, 20, 21, 22, 23, 24, 25], []⟩])
(.ret)))))))))),
[.t 6], 129⟩
theorem v_liverylaw25_PreemptMore_ok : compF Try.prog 5 = some v_liverylaw25_PreemptMore := by kernel_rfl
def v_liverylaw25_head : VFn := ⟨.seq (.reg [⟨some 0, .mov (.c (.bool false)), none, [], []⟩])
(.seq (.reg [⟨some 6, .call 31 [(.c (.int .u32 1)), (.c (.int .u32 4)), (.c (.int .i64 5))], none, [], []⟩,
 ⟨some 7, .call 31 [(.c (.int .u32 2)), (.c (.int .u32 1)), (.c (.int .i64 9))], none, [0], []⟩,
 ⟨some 8, .call 31 [(.c (.int .u32 3)), (.c (.int .u32 2)), (.c (.int .i64 0))], none, [1], []⟩,
 ⟨some 9, .call 31 [(.c (.int .u32 4)), (.c (.int .u32 3)), (.c (.int .i64 9))], none, [2], []⟩,
 ⟨some 10, .bsl 5 [(.t 6), (.t 7), (.t 8), (.t 9)], none, [0, 1, 2, 3], []⟩,
 ⟨some 1, .mov (.t 10), none, [4, 3, 0, 1, 2, 3, 4], []⟩])
(.seq (.reg [⟨some 12, .mov (.t 1), none, [], []⟩,
 ⟨some 13, .call 10 [(.t 12), (.c (.int .i64 9))], none, [0], []⟩,
 ⟨some 11, .mov (.t 13), none, [1], []⟩,
 ⟨some 14, .ext (.t 11) 0, none, [2], []⟩,
 ⟨some 15, .ext (.t 11) 1, none, [2], []⟩,
 ⟨some 2, .mov (.t 14), none, [3, 1, 0, 1, 2, 3], []⟩,
 ⟨some 3, .mov (.t 15), none, [4, 5, 0, 1, 2, 3, 4, 5], []⟩])
(.seq (.dreg [⟨some 17, .mov (.t 1), none, [], []⟩,
 ⟨some 18, .slc 5 (.t 17) none (some (.c (.int .i64 2))) (some (.c (.int .i64 2))), none, [0], []⟩,
 ⟨some 19, .call 31 [(.c (.int .u32 1)), (.c (.int .u32 1)), (.c (.int .i64 1))], none, [], []⟩,
 ⟨some 20, .bsl 5 [(.t 19)], none, [2], []⟩,
 ⟨some 21, .app 5 48 (.t 18) (.t 20), none, [1, 3, 2], [(0, 0)]⟩,
 ⟨some 22, .call 10 [(.t 21), (.c (.int .i64 1))], none, [4, 4], [(0, 0)]⟩,
 ⟨some 16, .mov (.t 22), none, [5], []⟩,
 ⟨some 23, .ext (.t 16) 0, none, [6], []⟩,
 ⟨some 24, .ext (.t 16) 1, none, [6], []⟩,
 ⟨some 4, .mov (.t 23), none, [7, 5, 0, 1, 2, 3, 4, 5, 6, 7], []⟩,
 ⟨some 5, .mov (.t 24), none, [8, 9, 0, 1, 2, 3, 4, 5, 6, 7, 8, 9], []⟩])
(.seq (.reg [⟨some 25, .mov (.t 1), none, [], []⟩,
 ⟨some 26, .call 15 [(.t 25)], none, [0], []⟩,
 ⟨some 27, .bsl 1 [(.c (.int .u32 4)), (.c (.int .u32 2)), (.c (.int .u32 1))], none, [], []⟩,
 ⟨some 28, .call 14 [(.t 26), (.t 27)], none, [1, 2, 1], []⟩,
 ⟨some 29, .mov (.t 28), none, [3, 3], []⟩,
 ⟨some 30, .mov (.t 1), some (29, true), [4], []⟩,
 ⟨some 31, .call 17 [(.t 30)], some (29, true), [5, 4, 4], []⟩,
 ⟨some 32, .bin .eql (.t 31) (.c (.int .i64 8)), some (29, true), [6, 4], []⟩,
 ⟨some 33, .pick (.t 29) (.t 32) (.c (.bool false)), none, [4, 7], []⟩,
 ⟨some 34, .mov (.t 33), none, [8, 6], []⟩,
 ⟨some 35, .bsl 1 [(.c (.int .u32 4))], some (34, true), [9], []⟩,
 ⟨some 36, .call 32 [(.c (.int .i64 3)), (.t 35)], some (34, true), [10, 9, 9], []⟩,
 ⟨some 37, .pick (.t 34) (.t 36) (.c (.bool false)), none, [9, 11], []⟩,
 ⟨some 38, .mov (.t 37), none, [12, 11], []⟩,
 ⟨some 39, .bsl 1 [(.c (.int .u32 4)), (.c (.int .u32 2))], some (38, true), [13], []⟩,
 ⟨some 40, .call 32 [(.c (.int .i64 4)), (.t 39)], some (38, true), [14, 13, 13], []⟩,
 ⟨some 41, .pick (.t 38) (.t 40) (.c (.bool false)), none, [13, 15], []⟩,
 ⟨some 42, .mov (.t 41), none, [16, 15], []⟩,
 ⟨some 43, .bsl 1 [(.c (.int .u32 4)), (.c (.int .u32 2)), (.c (.int .u32 1))], some (42, true), [17], []⟩,
 ⟨some 44, .call 32 [(.c (.int .i64 5)), (.t 43)], some (42, true), [18, 17, 17], []⟩,
 ⟨some 45, .pick (.t 42) (.t 44) (.c (.bool false)), none, [17, 19], []⟩,
 ⟨some 46, .mov (.t 45), none, [20, 19], []⟩,
 ⟨some 47, .call 32 [(.c (.int .i64 0)), (.c (.sl [] .full))], some (46, true), [21, 21], []⟩,
 ⟨some 48, .pick (.t 46) (.t 47) (.c (.bool false)), none, [21, 22], []⟩,
 ⟨some 49, .mov (.t 48), none, [23, 22], []⟩,
 ⟨some 50, .mov (.t 3), some (49, true), [24], []⟩,
 ⟨some 51, .bin .eql (.t 50) (.c (.int .i64 6)), some (49, true), [25, 24], []⟩,
 ⟨some 52, .pick (.t 49) (.t 51) (.c (.bool false)), none, [24, 26], []⟩,
 ⟨some 53, .mov (.t 52), none, [27, 24], []⟩,
 ⟨some 54, .mov (.t 5), some (53, true), [28], []⟩,
 ⟨some 55, .bin .eql (.t 54) (.c (.int .i64 2)), some (53, true), [29, 28], []⟩,
 ⟨some 56, .pick (.t 53) (.t 55) (.c (.bool false)), none, [28, 30], []⟩,
 ⟨some 57, .mov (.t 56), none, [31, 28], []⟩,
 ⟨some 58, .mov (.t 1), some (57, true), [32], []⟩,
 ⟨some 59, .iad 5 (.t 58) (.c (.int .i64 0)), some (57, true), [33, 32], []⟩,
 ⟨some 60, .load 5 true (.t 59), some (57, true), [34, 32], []⟩,
 ⟨some 61, .call 12 [(.t 60)], some (57, true), [35, 32, 32], []⟩,
 ⟨some 62, .pick (.t 57) (.t 61) (.c (.bool false)), none, [32, 36], []⟩,
 ⟨some 63, .mov (.t 62), none, [37, 36], []⟩,
 ⟨some 64, .call 31 [(.c (.int .u32 1)), (.c (.int .u32 4097)), (.c (.int .i64 0))], some (63, true), [38, 38], []⟩,
 ⟨some 65, .call 12 [(.t 64)], some (63, true), [39, 39, 38], []⟩,
 ⟨some 66, .un .not (.t 65), some (63, true), [40, 38], []⟩,
 ⟨some 67, .pick (.t 63) (.t 66) (.c (.bool false)), none, [38, 41], []⟩,
 ⟨some 0, .mov (.t 67), none, [42, 40, 0, 1, 2, 3, 4, 5, 6, 7, 8, 9, 10, 11, 12, 13, 14, 15, 16, 17, 18, 19, 20, 21, 22, 23, 24, 25, 26, 27, 28, 29, 30, 31, 32, 33, 34, 35, 36, 37, 38, 39, 40, 41, 42], []⟩])
(.ret))))),
[.t 0], 68⟩
theorem v_liverylaw25_head_ok : compF Try.prog 9 = some v_liverylaw25_head := by kernel_rfl
def v_liverylaw25_job : VFn := ⟨.seq (.reg [⟨some 6, .alloc [(.int .u32 0), (.str ⟨#[]⟩), (.int .u32 0), (.int .i64 0), (.int .i64 0)], none, [], []⟩])
(.seq (.reg [⟨some 7, .mov (.t 0), none, [], []⟩,
 ⟨some 8, .mov (.t 1), none, [], []⟩,
 ⟨some 9, .mov (.t 2), none, [], []⟩,
 ⟨some 10, .build [(.int .u32 0), (.str ⟨#[]⟩), (.int .u32 0), (.int .i64 0), (.int .i64 0)] [(0, 1, (.t 7)), (1, 1, (.c (.str ⟨#[97, 110, 110]⟩))), (2, 1, (.t 8)), (3, 1, (.c (.int .i64 1))), (4, 1, (.t 9))], none, [0, 1, 2], []⟩,
 ⟨none, .store 5 (.t 6) (.t 10), none, [3, 0, 1, 2, 3], []⟩])
(.ret)),
[.c 6 5 true], 11⟩
theorem v_liverylaw25_job_ok : compF Try.prog 31 = some v_liverylaw25_job := by kernel_rfl
def v_liverylaw25_gives : VFn := ⟨.seq (.reg [⟨some 4, .mov (.c (.bool false)), none, [], []⟩])
(.seq (.reg [⟨some 8, .call 31 [(.c (.int .u32 1)), (.c (.int .u32 4)), (.c (.int .i64 5))], none, [], []⟩,
 ⟨some 9, .call 31 [(.c (.int .u32 2)), (.c (.int .u32 1)), (.c (.int .i64 9))], none, [0], []⟩,
 ⟨some 10, .call 31 [(.c (.int .u32 3)), (.c (.int .u32 2)), (.c (.int .i64 0))], none, [1], []⟩,
 ⟨some 11, .call 31 [(.c (.int .u32 4)), (.c (.int .u32 3)), (.c (.int .i64 9))], none, [2], []⟩,
 ⟨some 12, .bsl 5 [(.t 8), (.t 9), (.t 10), (.t 11)], none, [0, 1, 2, 3], []⟩,
 ⟨some 13, .mov (.t 0), none, [], []⟩,
 ⟨some 14, .call 10 [(.t 12), (.t 13)], none, [4, 5, 3], []⟩,
 ⟨some 7, .mov (.t 14), none, [6], []⟩,
 ⟨some 15, .ext (.t 7) 0, none, [7], []⟩,
 ⟨some 16, .ext (.t 7) 1, none, [7], []⟩,
 ⟨some 5, .mov (.t 15), none, [8, 6, 0, 1, 2, 3, 4, 5, 6, 7, 8], []⟩,
 ⟨some 6, .mov (.t 16), none, [9, 10, 0, 1, 2, 3, 4, 5, 6, 7, 8, 9, 10], []⟩])
(.seq (.reg [⟨some 17, .mov (.t 5), none, [], []⟩,
 ⟨some 18, .mov (.t 1), none, [], []⟩,
 ⟨some 19, .call 14 [(.t 17), (.t 18)], none, [0, 1], []⟩,
 ⟨some 20, .mov (.t 19), none, [2, 2], []⟩,
 ⟨some 21, .mov (.t 6), some (20, true), [3], []⟩,
 ⟨some 22, .bin .eql (.t 21) (.c (.int .i64 0)), some (20, true), [4, 3], []⟩,
 ⟨some 23, .pick (.t 20) (.t 22) (.c (.bool false)), none, [3, 5], []⟩,
 ⟨some 4, .mov (.t 23), none, [6, 3, 0, 1, 2, 3, 4, 5, 6], []⟩])
(.ret))),
[.t 4], 24⟩
theorem v_liverylaw25_gives_ok : compF Try.prog 32 = some v_liverylaw25_gives := by kernel_rfl
end Go.Proofs.Ytglekfgoadehbaa.V
end
section
/- liverylaw25: job, gives, head; PreemptTells, walked. -/
namespace Go.Proofs.Ytglekfgoadehbaa.V
open Go Go.Proofs Go.Proofs.Ytglekfgoadehbaa.SP
set_option maxRecDepth 100000
set_option maxHeartbeats 4000000
theorem job_25 (id g since : Int) : VPure Try.prog 31 [.int .u32 id, .int .u32 g, .int .i64 since] (.agg [.int .u32 id, .str ⟨#[97, 110, 110]⟩, .int .u32 g, .int .i64 1, .int .i64 since]) := by
  refine VPure.of v_liverylaw25_job_ok (Nat.le_of_ble_eq_true rfl) (fun Z st => ?_)
  simp only [v_liverylaw25_job, ↓vD, vU, ↓vMd, vMu, vZ, seval, k_app, k_slc1]
  (repeat' (first | (simp (maxDischargeDepth := 16) only [*, vX, ↓vD, vU, ↓vMd, vMu, vZ, seval]) | (simp (disch := first | assumption | omega | rfl | exact fun _ => rfl) only [vP]) | ((with_reducible first | apply gsnd | apply csnd | apply gsd | apply csd | apply gsn | apply csn | apply gs | apply cs_) <;> intro _) | (with_reducible refine objQ_i (fun _ _ => ?_); repeat with_reducible refine imp_i (fun _ => ?_))))
def jH (id g since : Int) (h : (0 ≤ id ∧ id ≤ 4294967295) ∧ 0 ≤ g ∧ g ≤ 4294967295) : Job := ⟨id, ⟨#[97, 110, 110]⟩, g, 1, since, h⟩
def lH25 : List Job := [jH 1 4 5 (by omega), jH 2 1 9 (by omega), jH 3 2 0 (by omega), jH 4 3 9 (by omega)]
def lG25 : List Job := [jH 1 4 5 (by omega), jH 2 1 9 (by omega), jH 1 1 1 (by omega)]
theorem gives_25 (need : Int) (hn : -9223372036854775808 ≤ need ∧ need ≤ 9223372036854775807) (want : List Int) (t : Tok) : VPure Try.prog 32 [.int .i64 need, .sl (want.map nu) t] (.bool ((victimsF lH25 need).1 == want && (victimsF lH25 need).2 == 0)) := by
  refine VPure.of v_liverylaw25_gives_ok (Nat.le_of_ble_eq_true rfl) (fun Z st => ?_)
  have hV := Victims_p lH25 (by simp [lH25]) .full need hn
  have hlen : (victimsF lH25 need).1.length ≤ 1000000000 := by
    unfold victimsF
    split
    · split
      · simp
      · have : ∀ (l : List Job) (n : Int), (takeJ l n).length ≤ l.length := by
          intro l
          induction l with
          | nil => intro n; simp [takeJ]
          | cons x r ih => intro n; unfold takeJ; split; · simp
                           · have := ih (n - x.g); simp; omega
        have h1 := this (runJ lH25) need
        have h2 := runJ_len lH25
        have h3 : lH25.length = 4 := rfl
        simp only; omega
    · simp
  obtain ⟨E, hE⟩ : ∃ E, victimsF lH25 need = E := ⟨_, rfl⟩
  rw [hE] at hV hlen ⊢
  clear hE
  obtain ⟨a, e⟩ := E
  have hS := Same_25 a want hlen .no t
  obtain ⟨b, hb⟩ : ∃ b, (a == want) = b := ⟨_, rfl⟩
  simp only at hV ⊢
  rw [hb] at hS ⊢
  simp only [lH25, List.map_cons, List.map_nil, Job.a, jH] at hV
  clear hb hlen
  simp only [v_liverylaw25_gives, ↓vD, vU, ↓vMd, vMu, vZ, seval, k_app, k_slc1]
  cases b
  · (repeat' (first | (simp (maxDischargeDepth := 16) only [*, vX, ↓vD, vU, ↓vMd, vMu, vZ, seval]) | (simp (disch := first | assumption | omega | rfl | exact fun _ => rfl) only [vP]) | ((with_reducible first | apply gsnd | apply csnd | apply gsd | apply csd | apply gsn | apply csn | apply gs | apply cs_) <;> intro _) | (with_reducible first | refine callH_use (job_25 _ _ _) ?_ | refine pureQ_use (job_25 _ _ _) ?_) | (with_reducible first | refine callH_use (hV) ?_ | refine pureQ_use (hV) ?_) | (with_reducible first | refine callH_use (hS) ?_ | refine pureQ_use (hS) ?_)))
    all_goals first | done | simp | trace_state
  · (repeat' (first | (simp (maxDischargeDepth := 16) only [*, vX, ↓vD, vU, ↓vMd, vMu, vZ, seval]) | (simp (disch := first | assumption | omega | rfl | exact fun _ => rfl) only [vP]) | ((with_reducible first | apply gsnd | apply csnd | apply gsd | apply csd | apply gsn | apply csn | apply gs | apply cs_) <;> intro _) | (with_reducible first | refine callH_use (job_25 _ _ _) ?_ | refine pureQ_use (job_25 _ _ _) ?_) | (with_reducible first | refine callH_use (hV) ?_ | refine pureQ_use (hV) ?_) | (with_reducible first | refine callH_use (hS) ?_ | refine pureQ_use (hS) ?_)))
    all_goals first | done | simp | trace_state
theorem e1_25 : victimsF lH25 9 = ([], 6) := by decide +kernel
theorem e2_25 : victimsF lG25 1 = ([], 2) := by decide +kernel
theorem e3_25 : orderF lH25 = [4, 2, 1] := by decide +kernel
theorem e4_25 : sumJ (runJ lH25) = 8 := by decide +kernel
theorem e5_25 : victimsF lH25 3 = ([4], 0) := by decide +kernel
theorem e6_25 : victimsF lH25 4 = ([4, 2], 0) := by decide +kernel
theorem e7_25 : victimsF lH25 5 = ([4, 2, 1], 0) := by decide +kernel
theorem e8_25 : victimsF lH25 0 = ([], 0) := by decide +kernel
theorem cut2_25 (a b c d : AV) : vslc (.sl [a, b, c, d] .full) none (some (.int .i64 2)) (some (.int .i64 2)) = some (.sl [a, b] .full) := by
  simp [vslc, bnd]
theorem head_25 : VPure Try.prog 9 [] (.bool true) := by
  have a1 := Victims_p lH25 (by simp [lH25]) .full 9 (by omega)
  have a2 := fun t => Victims_p lG25 (by simp [lG25]) t 1 (by omega)
  have a3 := Order_p lH25 (by simp [lH25]) .full
  have a4 := Sum_p lH25 (by simp [lH25]) .full
  have g1 := gives_25 3 (by omega) [4] .full
  have g2 := gives_25 4 (by omega) [4, 2] .full
  have g3 := gives_25 5 (by omega) [4, 2, 1] .full
  have g4 := gives_25 0 (by omega) [] .full
  have s1 := Same_25 [4, 2, 1] [4, 2, 1] (by simp) .no .full
  have m1 := May_p (jH 1 4 5 (by omega))
  have m2 := May_p (jH 1 4097 0 (by omega))
  rw [e1_25] at a1
  simp only [e2_25] at a2
  rw [e3_25] at a3
  rw [e4_25] at a4
  rw [e5_25] at g1
  rw [e6_25] at g2
  rw [e7_25] at g3
  rw [e8_25] at g4
  rw [show mayJ (jH 1 4 5 (by omega)) = true by decide +kernel] at m1
  rw [show mayJ (jH 1 4097 0 (by omega)) = false by decide +kernel] at m2
  simp only [lH25, lG25, List.map_cons, List.map_nil, Job.a, jH, nu, beq_self_eq_true, Bool.and_true] at a1 a2 a3 a4 g1 g2 g3 g4 s1 m1 m2
  refine VPure.of v_liverylaw25_head_ok (Nat.le_of_ble_eq_true rfl) (fun Z st => ?_)
  simp only [v_liverylaw25_head, ↓vD, vU, ↓vMd, vMu, vZ, seval, k_app, k_slc1]
  (repeat' (first | (simp (maxDischargeDepth := 16) only [*, cut2_25, vX, ↓vD, vU, ↓vMd, vMu, vZ, seval]) | (simp (disch := first | assumption | omega | rfl | exact fun _ => rfl) only [cut2_25, vP]) | ((with_reducible first | apply gsnd | apply csnd | apply gsd | apply csd | apply gsn | apply csn | apply gs | apply cs_) <;> intro _) | ((try with_reducible refine appK_a ?_); first | (with_reducible refine appD_F (by refine ⟨?_, ?_, ?_, ?_⟩ <;> (first | assumption | omega | exact St.has_add (by assumption) | (simp only [ins_has]; exact St.has_add (by assumption)) | (simp only [ins_has, fresh_ins, kill_ins, add_ins] at *; exact St.has_add (by assumption)) | (simp only [*, ins_has, has_full, St.has_add]; done) | (simp [-List.map_take, -List.map_drop, or_imp, forall_and, Seg.a, Vec.a, Leg.a, num, okEl, cells_agg, cells_int, cells_sl, cells_bool, AV.isCell]; done) | (simp; omega))) (fun _ _ => ?_)) | (with_reducible refine appD_V (by refine ⟨?_, ?_, ?_, ?_, ?_⟩ <;> (first | assumption | omega | exact St.has_add (by assumption) | (simp only [ins_has]; exact St.has_add (by assumption)) | (simp only [ins_has, fresh_ins, kill_ins, add_ins] at *; exact St.has_add (by assumption)) | (simp only [*, ins_has, has_full, St.has_add]; done) | (simp [-List.map_take, -List.map_drop, or_imp, forall_and, Seg.a, Vec.a, Leg.a, num, okEl, cells_agg, cells_int, cells_sl, cells_bool, AV.isCell]; done) | (simp; omega))) (fun _ _ => ?_))) | (with_reducible refine freshQ_i (fun _ _ => ?_)) | (with_reducible first | refine callH_use (job_25 _ _ _) ?_ | refine pureQ_use (job_25 _ _ _) ?_) | (with_reducible first | refine callH_use (a1) ?_ | refine pureQ_use (a1) ?_) | (with_reducible first | refine callH_use (a2 _) ?_ | refine pureQ_use (a2 _) ?_) | (with_reducible first | refine callH_use (a3) ?_ | refine pureQ_use (a3) ?_) | (with_reducible first | refine callH_use (a4) ?_ | refine pureQ_use (a4) ?_) | (with_reducible first | refine callH_use (g1) ?_ | refine pureQ_use (g1) ?_) | (with_reducible first | refine callH_use (g2) ?_ | refine pureQ_use (g2) ?_) | (with_reducible first | refine callH_use (g3) ?_ | refine pureQ_use (g3) ?_) | (with_reducible first | refine callH_use (g4) ?_ | refine pureQ_use (g4) ?_) | (with_reducible first | refine callH_use (s1) ?_ | refine pureQ_use (s1) ?_) | (with_reducible first | refine callH_use (m1) ?_ | refine pureQ_use (m1) ?_) | (with_reducible first | refine callH_use (m2) ?_ | refine pureQ_use (m2) ?_)))
  all_goals first | done | ((try clear hfr); (try clear hfr2); (try clear hfr3); (try clear hf); (try clear hf2); (try clear hd); (try clear hd2); (try clear hd3); (try simp only [fresh_ins, kill_ins, add_ins] at *); (repeat' (first | exact St.le.refl _ | (with_reducible refine le_ins_new ?_ _ (by assumption)) | (with_reducible refine St.le.trans ?_ (add_kill_le (by assumption))) | (with_reducible refine le_add_t _ ?_)))) | trace_state
end Go.Proofs.Ytglekfgoadehbaa.V
end
section
/- What is handed in, as V's values: structs and arrays of any parts. -/
namespace Go.Proofs.Ytglekfgoadehbaa.V
open Go Go.ChangeShapes Go.WideShapes Go.ChangeAt Go.RowKit Go.Deep
set_option maxRecDepth 100000
def OpC (t : TypeId) (sz : Nat) (R : List AV → Prop) : Prop :=
  ∀ {H : Type} {enc : TypeId × Value → H} {w : World} {base : Nat} {spare : Nat → Bool} {held : Bool} {fuel : Nat} {cs : List Value} {x : DataW H × List MemPlace}, DataW.trod enc Try.prog w base spare held fuel t cs = some x →
    ∃ l : List AV, RepL (imW w) l cs ∧ l.length = sz ∧ l.all AV.isCell = true ∧ R l
theorem OpC.mono {t : TypeId} {sz : Nat} {R R' : List AV → Prop} (h : OpC t sz R) (hr : ∀ l, R l → R' l) : OpC t sz R' := fun hx => by
  obtain ⟨l, h1, h2, h3, h4⟩ := h hx
  exact ⟨l, h1, h2, h3, hr l h4⟩
theorem opn_of {α : Type} {t : TypeId} {sz : Nat} {f : α → AV} {wf : α → Prop} (h : OpC t sz (fun l => ∃ v, l = (f v).cells ∧ wf v)) : Opn t sz f wf := fun hx => by
  obtain ⟨l, h1, h2, h3, v, rfl, h4⟩ := h hx
  exact ⟨v, h1, by simp [okEl, h2, h3], h4⟩
theorem opc_int {t : TypeId} {k : IntKind} (ht : Try.prog.underlying t = some (.int k)) : OpC t 1 (fun l => ∃ n, l = [.int k n] ∧ (Lit.int k n).wf = true) := by
  intro H enc w base spare held fuel cs x h
  obtain ⟨a, rfl, _, wa⟩ := DataW.trod_int ht h
  exact ⟨[.int k a], by simp [RepL, Rep], rfl, rfl, a, rfl, wa⟩
theorem opc_str {t : TypeId} (ht : Try.prog.underlying t = some .string) : OpC t 1 (fun l => ∃ s : ByteArray, l = [.str s] ∧ s.size ≤ 9223372036854775807) := by
  intro H enc w base spare held fuel cs x h
  obtain ⟨a, rfl, _, wa⟩ := DataW.trod_string ht h
  exact ⟨[.str a], by simp [RepL, Rep], rfl, rfl, a, rfl, wa⟩
def tot : List (Nat × (List AV → Prop)) → Nat
  | [] => 0
  | (n, _) :: r => n + tot r
def AllC : List (Nat × (List AV → Prop)) → List AV → Prop
  | [], l => l = []
  | (_, R) :: r, l => ∃ a b, l = a ++ b ∧ R a ∧ AllC r b
def Parts (w : World) (cs : List Value) : Nat → List (Nat × (List AV → Prop)) → Prop
  | _, [] => True
  | o, (n, R) :: r => (∃ a : List AV, RepL (imW w) a ((cs.drop o).take n) ∧ a.length = n ∧ a.all AV.isCell = true ∧ R a) ∧ Parts w cs (o + n) r
theorem glue {w : World} {cs : List Value} : ∀ {ps : List (Nat × (List AV → Prop))} {o : Nat}, Parts w cs o ps → ∃ l : List AV, RepL (imW w) l ((cs.drop o).take (tot ps)) ∧ l.length = tot ps ∧ l.all AV.isCell = true ∧ AllC ps l
  | [], o, _ => ⟨[], by simp [tot, RepL], rfl, rfl, rfl⟩
  | (n, R) :: r, o, ⟨⟨a, h1, h2, h3, h4⟩, h⟩ => by
    obtain ⟨b, k1, k2, k3, k4⟩ := glue h
    refine ⟨a ++ b, ?_, by simp [h2, k2, tot], by simp only [List.all_append, h3, k3, Bool.and_self], a, b, rfl, h4, k4⟩
    simp only [tot]
    rw [List.take_add, List.drop_drop]
    exact h1.append k1
def SeqC : List Field → Nat → List (Nat × (List AV → Prop)) → Prop
  | [], _, [] => True
  | f :: fs, o, (n, R) :: r => (f.offset = o ∧ Try.prog.cellsOf f.type = n ∧ OpC f.type n R) ∧ SeqC fs (o + n) r
  | _, _, _ => False
theorem opc_struct {t : TypeId} {fs : Array Field} {ps : List (Nat × (List AV → Prop))} (ht : Try.prog.underlying t = some (.struct fs)) (hsz : Try.prog.cellsOf t = tot ps) (hs : SeqC fs.toList 0 ps) : OpC t (tot ps) (AllC ps) := by
  intro H enc w base spare held fuel cs x h
  obtain ⟨xs, n, _, rfl, hl, hlen, hf⟩ := DataW.trod_struct ht h
  have key : ∀ (fl : List Field) (o : Nat) (ps : List (Nat × (List AV → Prop))), (∀ f ∈ fl, ∃ y, DataW.trod enc Try.prog w base spare held n f.type ((cs.drop f.offset).take (Try.prog.cellsOf f.type)) = some y) → SeqC fl o ps → Parts w cs o ps := by
    intro fl
    induction fl with
    | nil =>
      intro o ps _ hs
      cases ps with
      | nil => trivial
      | cons p r => exact hs.elim
    | cons f fl ih =>
      intro o ps hy hs
      match ps, hs with
      | (m, R) :: r, ⟨⟨e1, e2, h3⟩, h4⟩ =>
        obtain ⟨y, hy1⟩ := hy f (by simp)
        rw [e1, e2] at hy1
        exact ⟨h3 hy1, ih _ _ (fun g hg => hy g (by simp [hg])) h4⟩
  have hp := key fs.toList 0 ps (fun f hfm => by
    obtain ⟨i, hi, rfl⟩ := List.getElem_of_mem hfm
    have hi2 : i < fs.size := by simpa using hi
    have := hf i fs[i] (by simp [hi2])
    rw [List.getElem?_eq_getElem (by omega)] at this
    exact ⟨_, by simpa using this⟩) hs
  obtain ⟨l, k1, k2, k3, k4⟩ := glue hp
  refine ⟨l, ?_, k2, k3, k4⟩
  rw [List.drop_zero, List.take_of_length_le (by omega)] at k1
  exact k1
/-! The structs of times and resources. -/
end Go.Proofs.Ytglekfgoadehbaa.V
end
section
/- Jobs that are handed in. -/
namespace Go.Proofs.Ytglekfgoadehbaa.V
open Go Go.ChangeShapes Go.WideShapes Go.ChangeAt Go.RowKit Go.Deep
set_option maxRecDepth 100000
theorem u32_of {n : Int} (h : (Lit.int .u32 n).wf = true) : 0 ≤ n ∧ n ≤ 4294967295 := by
  simp [Lit.wf] at h
  first | exact h | omega | (have := h; simp [IntKind.wrap, IntKind.lo, IntKind.hi] at this; omega)
theorem opn_job : Opn 33 5 Job.a (fun _ => True) :=
  opn_of (OpC.mono (opc_struct (ps := [(1, _), (1, _), (1, _), (1, _), (1, _)]) Try.underlying33 (by kernel_rfl) ⟨⟨rfl, by kernel_rfl, opc_int (k := .u32) (by kernel_rfl)⟩, ⟨rfl, by kernel_rfl, opc_str (by kernel_rfl)⟩,
    ⟨rfl, by kernel_rfl, opc_int (k := .u32) (by kernel_rfl)⟩, ⟨rfl, by kernel_rfl, opc_int (k := .i64) (by kernel_rfl)⟩, ⟨rfl, by kernel_rfl, opc_int (k := .i64) (by kernel_rfl)⟩, trivial⟩) (by
    rintro l ⟨_, _, rfl, ⟨a, rfl, ha⟩, _, _, rfl, ⟨s, rfl, hs⟩, _, _, rfl, ⟨g, rfl, hg⟩, _, _, rfl, ⟨d, rfl, hd⟩, _, _, rfl, ⟨t, rfl, ht⟩, rfl⟩
    exact ⟨⟨a, s, g, d, t, u32_of ha, u32_of hg⟩, rfl, trivial⟩))
end Go.Proofs.Ytglekfgoadehbaa.V
end
section
/- Who gives way: what does not count, in plain Lean. -/
namespace Go.Proofs.Ytglekfgoadehbaa.V
open Go Go.Proofs Go.Proofs.Ytglekfgoadehbaa.SP
theorem eqvJ {x y : Job} (h : eqv (ltB cmpJ) x y = true) : x.id = y.id := by
  simp only [eqv, ltB_J, Bool.and_eq_true, Bool.not_eq_true', decide_eq_false_iff_not] at h
  unfold ltJ at h
  omega
theorem few {l : List Job} (hd : (l.map (·.id)).Nodup) (x : Job) : (l.filter (eqv (ltB cmpJ) x)).length ≤ 1 := by
  have hs : ((l.filter (eqv (ltB cmpJ) x)).map (·.id)).Nodup := hd.sublist (List.Sublist.map _ List.filter_sublist)
  have ha : ∀ y ∈ l.filter (eqv (ltB cmpJ) x), x.id = y.id := fun y hy => eqvJ (List.mem_filter.1 hy).2
  match h : l.filter (eqv (ltB cmpJ) x) with
  | [] => simp
  | [a] => simp
  | a :: b :: r =>
    rw [h] at hs ha
    have h1 := ha a (by simp)
    have h2 := ha b (by simp)
    simp only [List.map_cons, List.nodup_cons, List.mem_cons] at hs
    exact absurd (.inl (h1.symm.trans h2)) hs.1
theorem runJ_perm {l m : List Job} (h : l.Perm m) (hd : (l.map (·.id)).Nodup) : runJ l = runJ m := by
  unfold runJ
  have hp := h.filter runsJ
  refine srt_unique swoJ _ _ (sortS_srt swoJ _) (sortS_srt swoJ _) ((sortS_stb swoJ _).symm.trans (Stb.trans ⟨hp.length_eq, fun x => ?_⟩ (sortS_stb swoJ _)))
  have hf := few (l := l.filter runsJ) (hd.sublist (List.Sublist.map _ List.filter_sublist)) x
  have hq := hp.filter (eqv (ltB cmpJ) x)
  match e : (l.filter runsJ).filter (eqv (ltB cmpJ) x) with
  | [] => rw [e] at hq; rw [List.Perm.nil_eq hq]
  | [a] => rw [e] at hq; rw [List.Perm.singleton_eq hq]
  | a :: b :: r => rw [e] at hf; simp at hf
theorem allJ_iff : ∀ (l : List Job) (met : List Int), allJ l met = true ↔ (∀ x ∈ l, mayJ x = true) ∧ (∀ x ∈ l, x.id ∉ met) ∧ (l.map (·.id)).Nodup
  | [], met => by simp [allJ]
  | x :: r, met => by
    simp only [allJ, Bool.and_eq_true, allJ_iff r, List.map_cons, List.nodup_cons, Bool.not_eq_true', List.contains_eq_mem, decide_eq_false_iff_not]
    constructor
    · rintro ⟨⟨a, b⟩, c, d, e⟩
      refine ⟨fun y hy => ?_, fun y hy => ?_, fun hm => ?_, e⟩
      · rcases List.mem_cons.1 hy with rfl | hy
        · exact a
        · exact c y hy
      · rcases List.mem_cons.1 hy with rfl | hy
        · exact b
        · exact fun h => d y hy (List.mem_cons_of_mem _ h)
      · obtain ⟨y, hy, he⟩ := List.mem_map.1 hm
        exact d y hy (by rw [he]; exact List.mem_cons_self)
    · rintro ⟨c, d, f, e⟩
      refine ⟨⟨c x List.mem_cons_self, d x List.mem_cons_self⟩, fun y hy => c y (List.mem_cons_of_mem _ hy), fun y hy hm => ?_, e⟩
      rcases List.mem_cons.1 hm with he | hm
      · exact f (he ▸ List.mem_map_of_mem (f := (·.id)) hy)
      · exact d y (List.mem_cons_of_mem _ hy) hm
theorem runJ_run (l : List Job) : runJ (l.filter runsJ) = runJ l := by
  unfold runJ; rw [List.filter_filter]; congr 1; apply List.filter_congr; simp
theorem takeJ_more : ∀ (l : List Job) (n n' : Int), n ≤ n' → (takeJ l n').take (takeJ l n).length = takeJ l n ∧ (takeJ l n).length ≤ (takeJ l n').length
  | [], n, n', _ => by simp [takeJ]
  | x :: r, n, n', h => by
    unfold takeJ
    by_cases h0 : n ≤ 0
    · simp [h0]
    · have h1 : ¬ n' ≤ 0 := by omega
      have ih := takeJ_more r (n - x.g) (n' - x.g) (by omega)
      simp [h0, h1, ih.1, ih.2]
theorem victims_ok {l : List Job} {need : Int} (h : (victimsF l need).2 = 0) : allJ l [] = true ∧ ¬ sumJ (runJ l) < need ∧ victimsF l need = (takeJ (runJ l) need, 0) := by
  unfold victimsF at h ⊢
  split at h
  · rename_i h1
    split at h
    · cases h
    · rename_i h2; exact ⟨h1, h2, by rw [if_pos h1, if_neg h2]⟩
  · cases h
theorem victims_more {l : List Job} {need n2 : Int} (h : (victimsF l need).2 = 0) (hn : need ≤ n2) :
    (victimsF l n2).2 = 6 ∨ (victimsF l n2).2 = 0 ∧ (victimsF l need).1.length ≤ (victimsF l n2).1.length ∧ (victimsF l n2).1.take (victimsF l need).1.length = (victimsF l need).1 := by
  obtain ⟨h1, h2, h3⟩ := victims_ok h
  rw [h3]
  unfold victimsF
  rw [if_pos h1]
  split
  · exact .inl rfl
  · have := takeJ_more (runJ l) need n2 hn
    exact .inr ⟨rfl, this.2, this.1⟩
theorem nodupJ {l : List Job} (h : allJ l [] = true) : (l.map (·.id)).Nodup := ((allJ_iff l []).1 h).2.2
theorem runJ_rev {l : List Job} (h : allJ l [] = true) : runJ l.reverse = runJ l := (runJ_perm (List.reverse_perm l).symm (nodupJ h)).symm
theorem victims_rev {l : List Job} {need : Int} (h : (victimsF l need).2 = 0) : victimsF l.reverse need = victimsF l need := by
  obtain ⟨h1, h2, h3⟩ := victims_ok h
  have hr := runJ_rev h1
  rw [h3]
  unfold victimsF
  rw [hr, if_neg h2, if_pos]
  have := (allJ_iff l []).1 h1
  exact (allJ_iff _ _).2 ⟨fun x hx => this.1 x (List.mem_reverse.1 hx), fun x hx => by simp, by rw [List.map_reverse]; exact List.pairwise_reverse.2 (this.2.2.imp fun h => h.symm)⟩
theorem victims_run {l : List Job} {need : Int} (h : (victimsF l need).2 = 0) : victimsF (l.filter runsJ) need = victimsF l need := by
  obtain ⟨h1, h2, h3⟩ := victims_ok h
  rw [h3]
  unfold victimsF
  rw [runJ_run, if_neg h2, if_pos]
  have := (allJ_iff l []).1 h1
  exact (allJ_iff _ _).2 ⟨fun x hx => this.1 x (List.mem_filter.1 hx).1, fun x hx => by simp, this.2.2.sublist (List.Sublist.map _ List.filter_sublist)⟩
theorem victims_rr {l : List Job} {need : Int} (h : (victimsF l need).2 = 0) : victimsF (l.reverse.filter runsJ) need = victimsF l need := by
  have h2 := victims_rev h
  rw [victims_run (by rw [h2]; exact h), h2]
theorem order_rev {l : List Job} {need : Int} (h : (victimsF l need).2 = 0) : orderF l.reverse = orderF l := by
  unfold orderF; rw [runJ_rev (victims_ok h).1]
end Go.Proofs.Ytglekfgoadehbaa.V
end
section
/- Two rights to append side by side. -/
namespace Go.Proofs.Ytglekfgoadehbaa.V
open Go Go.RowKit
theorem kill_mono {a b : St} (h : a.le b) (t : Tok) : (a.kill t).le (b.kill t) := by
  cases t <;> first | exact h | (refine ⟨h.objs, fun j hj => ?_⟩; simp only [St.kill] at hj ⊢; split at hj; cases hj; rename_i e; rw [if_neg e]; exact h.live j hj)
theorem kill_comm (s : St) (t u : Tok) : (s.kill t).kill u = (s.kill u).kill t := by
  cases t <;> cases u <;> first | rfl | (simp only [St.kill]; congr 1; funext j; split <;> split <;> rfl)
structure Two (sz : Nat) (st s : St) (t1 t2 : Tok) : Prop where
  objs : s.objs = st.objs
  h1 : (s.kill t2).has sz t1 = true
  h2 : (s.kill t1).has sz t2 = true
  le : st.le ((s.kill t1).kill t2)
theorem Two.full (sz : Nat) (st : St) : Two sz st st .full .full := ⟨rfl, rfl, rfl, St.le.refl _⟩
theorem Two.swap {sz : Nat} {st s : St} {t1 t2 : Tok} (h : Two sz st s t1 t2) : Two sz st s t2 t1 := ⟨h.objs, h.h2, h.h1, by rw [kill_comm]; exact h.le⟩
theorem has_le {sz : Nat} {a b : St} (h : a.le b) {t : Tok} (k : a.has sz t = true) : b.has sz t = true := by
  cases t with
  | no => exact k
  | full => rfl
  | own q => simp only [St.has, Bool.and_eq_true] at k ⊢; exact ⟨h.live _ k.1, k.2⟩
theorem Two.has {sz : Nat} {st s : St} {t1 t2 : Tok} (h : Two sz st s t1 t2) : s.has sz t1 = true := has_le (kill_le _ _) h.h1
theorem Two.under {sz : Nat} {st s : St} {t1 t2 : Tok} (h : Two sz st s t1 t2) : st.le s := h.le.trans ((kill_le _ _).trans (kill_le _ _))
theorem Two.next {sz : Nat} {st s : St} {t1 t2 t' : Tok} (h : Two sz st s t1 t2) (hf : (s.kill t1).fresh sz t') : Two sz st ((s.kill t1).add t') t' t2 := by
  refine ⟨by rw [add_objs, kill_objs, h.objs], ?_, has_le (add_kill_le hf) h.h2, h.le.trans (kill_mono (add_kill_le hf) t2)⟩
  cases t' with
  | no => exact hf.elim
  | full => rfl
  | own k =>
    have h2 := h.h2
    cases t2 with
    | no => exact St.has_add hf
    | full => exact St.has_add hf
    | own q =>
      have hne : k ≠ q := by
        rintro rfl
        simp only [St.has, Bool.and_eq_true] at h2
        rw [hf.1] at h2; cases h2.1
      simp [St.has, St.add, St.kill, hf.2, hne]
end Go.Proofs.Ytglekfgoadehbaa.V
end
section
/- PreemptMore, walked. -/
namespace Go.Proofs.Ytglekfgoadehbaa.V
open Go Go.Proofs Go.Proofs.Ytglekfgoadehbaa.SP
set_option maxRecDepth 100000
set_option maxHeartbeats 4000000
theorem takeJ_len : ∀ (l : List Job) (n : Int), (takeJ l n).length ≤ l.length := by
  intro l
  induction l with
  | nil => intro n; simp [takeJ]
  | cons x r ih =>
    intro n; unfold takeJ; split
    · simp
    · have := ih (n - x.g); simp; omega
theorem orderF_len (l : List Job) : (orderF l).length ≤ l.length := by
  have : ∀ (xs : List Job) (acc : List Int), (xs.foldl addId acc).length ≤ acc.length + xs.length := by
    intro xs
    induction xs with
    | nil => intro acc; simp
    | cons x r ih =>
      intro acc
      have := ih (addId acc x)
      have h2 : (addId acc x).length ≤ acc.length + 1 := by unfold addId; split <;> simp
      simp only [List.foldl_cons, List.length_cons]; omega
  have h1 := this (runJ l) []
  have h2 := runJ_len l
  unfold orderF
  simp at h1; omega
theorem preemptMore_v (l : List Job) (hl : l.length ≤ 2000000) (need : Int) (hn : -9223372036854775808 ≤ need ∧ need ≤ 9223372036854775807) (more : Int) (hm : 0 ≤ more ∧ more ≤ 4294967295) : VPure Try.prog 5 [.sl (l.map Job.a) .no, .int .i64 need, .int .u32 more] (.bool true) := by
  refine VPure.of v_liverylaw25_PreemptMore_ok (Nat.le_of_ble_eq_true rfl) (fun Z st => ?_)
  have a1 := Victims_p l hl .no need hn
  obtain ⟨E, hE⟩ : ∃ E, victimsF l need = E := ⟨_, rfl⟩
  have HE : Hid (victimsF l need = E) := ⟨hE⟩
  rw [hE] at a1
  clear hE
  obtain ⟨a, e⟩ := E
  simp only at a1
  by_cases h100 : 100 < l.length
  · simp only [v_liverylaw25_PreemptMore, ↓vD, vU, ↓vMd, vMu, vZ, seval, k_app, k_slc1]
    (repeat' (first | (simp (maxDischargeDepth := 16) only [*, vX, ↓vD, vU, ↓vMd, vMu, vZ, seval]) | (simp (disch := first | assumption | omega | rfl | exact fun _ => rfl) only [vP]) | ((with_reducible first | apply gsnd | apply csnd | apply gsd | apply csd | apply gsn | apply csn | apply gs | apply cs_) <;> intro _) | ((try with_reducible refine appK_a ?_); first | (with_reducible refine appD_F (by refine ⟨?_, ?_, ?_, ?_⟩ <;> (first | assumption | omega | exact St.has_add (by assumption) | (simp only [ins_has]; exact St.has_add (by assumption)) | (simp only [ins_has, fresh_ins, kill_ins, add_ins] at *; exact St.has_add (by assumption)) | (simp only [*, ins_has, has_full, St.has_add]; done) | (simp [-List.map_take, -List.map_drop, or_imp, forall_and, Seg.a, Vec.a, Leg.a, num, okEl, cells_agg, cells_int, cells_sl, cells_bool, AV.isCell]; done) | (simp; omega))) (fun _ _ => ?_)) | (with_reducible refine appD_V (by refine ⟨?_, ?_, ?_, ?_, ?_⟩ <;> (first | assumption | omega | exact St.has_add (by assumption) | (simp only [ins_has]; exact St.has_add (by assumption)) | (simp only [ins_has, fresh_ins, kill_ins, add_ins] at *; exact St.has_add (by assumption)) | (simp only [*, ins_has, has_full, St.has_add]; done) | (simp [-List.map_take, -List.map_drop, or_imp, forall_and, Seg.a, Vec.a, Leg.a, num, okEl, cells_agg, cells_int, cells_sl, cells_bool, AV.isCell]; done) | (simp; omega))) (fun _ _ => ?_))) | (with_reducible refine freshQ_i (fun _ _ => ?_)) | (with_reducible first | refine callH_use (a1) ?_ | refine pureQ_use (a1) ?_) | (with_reducible first | refine callH_use (head_25) ?_ | refine pureQ_use (head_25) ?_)))
  by_cases he : e = 0
  rotate_left
  · simp only [v_liverylaw25_PreemptMore, ↓vD, vU, ↓vMd, vMu, vZ, seval, k_app, k_slc1]
    (repeat' (first | (simp (maxDischargeDepth := 16) only [*, vX, ↓vD, vU, ↓vMd, vMu, vZ, seval]) | (simp (disch := first | assumption | omega | rfl | exact fun _ => rfl) only [vP]) | ((with_reducible first | apply gsnd | apply csnd | apply gsd | apply csd | apply gsn | apply csn | apply gs | apply cs_) <;> intro _) | ((try with_reducible refine appK_a ?_); first | (with_reducible refine appD_F (by refine ⟨?_, ?_, ?_, ?_⟩ <;> (first | assumption | omega | exact St.has_add (by assumption) | (simp only [ins_has]; exact St.has_add (by assumption)) | (simp only [ins_has, fresh_ins, kill_ins, add_ins] at *; exact St.has_add (by assumption)) | (simp only [*, ins_has, has_full, St.has_add]; done) | (simp [-List.map_take, -List.map_drop, or_imp, forall_and, Seg.a, Vec.a, Leg.a, num, okEl, cells_agg, cells_int, cells_sl, cells_bool, AV.isCell]; done) | (simp; omega))) (fun _ _ => ?_)) | (with_reducible refine appD_V (by refine ⟨?_, ?_, ?_, ?_, ?_⟩ <;> (first | assumption | omega | exact St.has_add (by assumption) | (simp only [ins_has]; exact St.has_add (by assumption)) | (simp only [ins_has, fresh_ins, kill_ins, add_ins] at *; exact St.has_add (by assumption)) | (simp only [*, ins_has, has_full, St.has_add]; done) | (simp [-List.map_take, -List.map_drop, or_imp, forall_and, Seg.a, Vec.a, Leg.a, num, okEl, cells_agg, cells_int, cells_sl, cells_bool, AV.isCell]; done) | (simp; omega))) (fun _ _ => ?_))) | (with_reducible refine freshQ_i (fun _ _ => ?_)) | (with_reducible first | refine callH_use (a1) ?_ | refine pureQ_use (a1) ?_) | (with_reducible first | refine callH_use (head_25) ?_ | refine pureQ_use (head_25) ?_)))
  subst he
  by_cases hg : 1099511627776 < need
  · simp only [v_liverylaw25_PreemptMore, ↓vD, vU, ↓vMd, vMu, vZ, seval, k_app, k_slc1]
    (repeat' (first | (simp (maxDischargeDepth := 16) only [*, vX, ↓vD, vU, ↓vMd, vMu, vZ, seval]) | (simp (disch := first | assumption | omega | rfl | exact fun _ => rfl) only [vP]) | ((with_reducible first | apply gsnd | apply csnd | apply gsd | apply csd | apply gsn | apply csn | apply gs | apply cs_) <;> intro _) | ((try with_reducible refine appK_a ?_); first | (with_reducible refine appD_F (by refine ⟨?_, ?_, ?_, ?_⟩ <;> (first | assumption | omega | exact St.has_add (by assumption) | (simp only [ins_has]; exact St.has_add (by assumption)) | (simp only [ins_has, fresh_ins, kill_ins, add_ins] at *; exact St.has_add (by assumption)) | (simp only [*, ins_has, has_full, St.has_add]; done) | (simp [-List.map_take, -List.map_drop, or_imp, forall_and, Seg.a, Vec.a, Leg.a, num, okEl, cells_agg, cells_int, cells_sl, cells_bool, AV.isCell]; done) | (simp; omega))) (fun _ _ => ?_)) | (with_reducible refine appD_V (by refine ⟨?_, ?_, ?_, ?_, ?_⟩ <;> (first | assumption | omega | exact St.has_add (by assumption) | (simp only [ins_has]; exact St.has_add (by assumption)) | (simp only [ins_has, fresh_ins, kill_ins, add_ins] at *; exact St.has_add (by assumption)) | (simp only [*, ins_has, has_full, St.has_add]; done) | (simp [-List.map_take, -List.map_drop, or_imp, forall_and, Seg.a, Vec.a, Leg.a, num, okEl, cells_agg, cells_int, cells_sl, cells_bool, AV.isCell]; done) | (simp; omega))) (fun _ _ => ?_))) | (with_reducible refine freshQ_i (fun _ _ => ?_)) | (with_reducible first | refine callH_use (a1) ?_ | refine pureQ_use (a1) ?_) | (with_reducible first | refine callH_use (head_25) ?_ | refine pureQ_use (head_25) ?_)))
  have hV : (victimsF l need).2 = 0 := by rw [HE.out]
  obtain ⟨m, hrem, hm0, hm1⟩ : ∃ m : Int, vbin .rem (.int .u32 more) (.int .u32 1048576) = some (.int .u32 m) ∧ 0 ≤ m ∧ m < 1048576 := by
    refine ⟨more % 1048576, ?_, Int.emod_nonneg _ (by omega), Int.emod_lt_of_pos _ (by omega)⟩
    have h1 : more.tmod 1048576 = more % 1048576 := Int.tmod_eq_emod_of_nonneg hm.1
    simp [vbin, h1]
  obtain ⟨n1, n2⟩ := hn
  have hw1 : IntKind.i64.wrap m = m := wrap_i64 _ (by omega) (by omega)
  have hw2 : IntKind.i64.wrap (need + m) = need + m := wrap_i64 _ (by omega) (by omega)
  have hw3 : IntKind.i64.wrap ((l.length : Int) - 1) = (l.length : Int) - 1 := wrap_i64 _ (by omega) (by omega)
  have a2 := Victims_p l hl .no (need + m) (by omega)
  have HM : Hid ((victimsF l (need + m)).2 = 6 ∨ (victimsF l (need + m)).2 = 0 ∧ a.length ≤ (victimsF l (need + m)).1.length ∧ (victimsF l (need + m)).1.take a.length = a) := ⟨by have := victims_more (n2 := need + m) hV (by omega); rw [HE.out] at this; exact this⟩
  have hal : a.length ≤ 100 := by
    have h1 := (victims_ok hV).2.2
    have h2 := takeJ_len (runJ l) need
    have h3 := runJ_len l
    rw [HE.out] at h1
    have : a = takeJ (runJ l) need := by injection h1
    rw [this]; omega
  have s1 := Same_25 a a (by omega) .no .no
  have o1 := Order_p l hl .no
  have hol : (orderF l).length ≤ 100 := by have := orderF_len l; omega
  have s2 := Same_25 (orderF l) (orderF l) (by omega) .no .no
  rw [beq_self_eq_true] at s1 s2
  have VR : Hid (∀ (m : List Job), m = l.reverse ∨ m = l.reverse.filter runsJ → victimsF m need = (a, 0)) := ⟨by rintro m (rfl | rfl); exact (victims_rev hV).trans HE.out; exact (victims_rr hV).trans HE.out⟩
  have OR : Hid (orderF l.reverse = orderF l) := ⟨order_rev hV⟩
  clear hV HE
  obtain ⟨F, hF⟩ : ∃ F, victimsF l (need + m) = F := ⟨_, rfl⟩
  rw [hF] at a2 HM
  clear hF
  obtain ⟨b, f⟩ := F
  simp only at a2 HM
  have HM2 : f = 6 ∧ b.take b.length = b ∨ f = 0 ∧ a.length ≤ b.length ∧ b.take a.length = a := by
    rcases HM.out with h | h
    · exact .inl ⟨h, List.take_length⟩
    · exact .inr h
  clear HM
  rcases HM2 with ⟨rfl, hbt⟩ | ⟨rfl, hbl, hbt⟩
  all_goals
    simp only [v_liverylaw25_PreemptMore, ↓vD, vU, ↓vMd, vMu, vZ, seval, k_app, k_slc1]
    (repeat' (first | (simp (maxDischargeDepth := 16) only [*, hbt, vX, ↓vD, vU, ↓vMd, vMu, vZ, seval]) | (simp (disch := first | assumption | omega | rfl | exact fun _ => rfl) only [hbt, vP]) | ((with_reducible first | apply gsnd | apply csnd | apply gsd | apply csd | apply gsn | apply csn | apply gs | apply cs_) <;> intro _) | (with_reducible refine freshQ_i (fun _ _ => ?_)) | (with_reducible first | refine callH_use (a1) ?_ | refine pureQ_use (a1) ?_) | (with_reducible first | refine callH_use (a2) ?_ | refine pureQ_use (a2) ?_) | (with_reducible first | refine callH_use (hrem) ?_ | refine pureQ_use (hrem) ?_) | (with_reducible first | refine callH_use (s1) ?_ | refine pureQ_use (s1) ?_)))
  all_goals
    clear a1 a2 hrem hw1 hw2
    refine loopf_of (len := l.length) (by simp only [asgL, dsts, List.cons_append, List.nil_append, List.append_nil]; rfl) (by simp only [noR, Bool.and_true, Bool.and_false]; rfl) (by omega) (fun k fr s => ∃ c d t1 t2, Two 5 st s t1 t2 ∧ fr.t 13 = .int .i64 ((l.length : Int) - 1 - k) ∧ fr.t 11 = .sl (c.map Job.a) t1 ∧ fr.t 12 = .sl (d.map Job.a) t2 ∧ c.length ≤ k ∧ d.length ≤ k ∧ Hid (c = l.reverse.take k ∧ d = (l.reverse.take k).filter runsJ)) ?_ ?_ ?_
    · exact ⟨[], [], .full, .full, Two.full 5 st, by simp [↓vD, vU, ↓vMd, vMu, vZ, seval, k_app, k_slc1], by simp [↓vD, vU, ↓vMd, vMu, vZ, seval, k_app, k_slc1], by simp [↓vD, vU, ↓vMd, vMu, vZ, seval, k_app, k_slc1], by simp, by simp, ⟨by simp⟩⟩
    · rintro k fr s' hk hwk hfr hd ⟨c, d, t1, t2, ho, h13, h11, h12, hcl, hdl, HC⟩
      obtain ⟨j, hj⟩ : ∃ j, j + 1 + k = l.length := ⟨l.length - 1 - k, by omega⟩
      have hjl : j < l.length := by omega
      have h13n : (l.length : Int) - 1 - (k + 1 : Nat) = (j : Int) - 1 := by omega
      rw [show (l.length : Int) - 1 - k = (j : Int) by omega] at h13
      obtain ⟨x, hx⟩ : ∃ x, l[j] = x := ⟨_, rfl⟩
      have hrv : l.reverse.take (k + 1) = l.reverse.take k ++ [x] := by
        rw [List.take_add_one, List.getElem?_eq_getElem (by simpa using hk), List.getElem_reverse]
        have e : l.length - 1 - k = j := by omega
        simp only [e, hx, Option.toList_some]
      have hw4 : IntKind.i64.wrap ((j : Int) - 1) = (j : Int) - 1 := wrap_i64 _ (by omega) (by omega)
      have q1 := ho.has
      have hcn : ∀ z ∈ c.map Job.a, z.cells.length = 5 := fun z hz => by obtain ⟨y, _, rfl⟩ := List.mem_map.1 hz; rfl
      have hdn : ∀ z ∈ d.map Job.a, z.cells.length = 5 := fun z hz => by obtain ⟨y, _, rfl⟩ := List.mem_map.1 hz; rfl
      have hx1 : ∀ z ∈ [x.a], okEl 5 z = true := fun z hz => by rw [List.mem_singleton.1 hz]; rfl
      simp only [Job.a] at hx1
      have HN : Hid (runsJ x = !decide (x.since ≤ 0) ∧ c ++ [x] = l.reverse.take (k + 1) ∧ (l.reverse.take (k + 1)).filter runsJ = d ++ [x].filter runsJ) := ⟨rfl, by rw [hrv, HC.out.1], by rw [hrv, List.filter_append, HC.out.2]⟩
      clear HC hrv
      by_cases hs : x.since ≤ 0
      · (repeat' (first | (simp (maxDischargeDepth := 16) only [*, Job.a, vX, ↓vD, vU, ↓vMd, vMu, vZ, seval]) | (simp (disch := first | assumption | omega | rfl | exact fun _ => rfl) only [Job.a, vP]) | ((with_reducible first | apply gsnd | apply csnd | apply gsd | apply csd | apply gsn | apply csn | apply gs | apply cs_) <;> intro _) | (with_reducible refine freshQ_i (fun _ _ => ?_))))
        refine appK_v q1 hcn hx1 (by simp; omega) (by simp; omega) (fun t3 g3 => ?_)
        (repeat' (first | (simp (maxDischargeDepth := 16) only [*, Job.a, vX, ↓vD, vU, ↓vMd, vMu, vZ, seval]) | (simp (disch := first | assumption | omega | rfl | exact fun _ => rfl) only [Job.a, vP]) | ((with_reducible first | apply gsnd | apply csnd | apply gsd | apply csd | apply gsn | apply csn | apply gs | apply cs_) <;> intro _) | (with_reducible refine freshQ_i (fun _ _ => ?_))))
        refine ⟨_, St.le.refl _, c ++ [x], d, t3, t2, ho.next g3, by omega, by simp [Job.a], rfl, by simp; omega, by omega, ⟨HN.out.2.1, ?_⟩⟩
        have := HN.out
        rw [this.2.2]; simp [this.1, hs]
      · (repeat' (first | (simp (maxDischargeDepth := 16) only [*, Job.a, vX, ↓vD, vU, ↓vMd, vMu, vZ, seval]) | (simp (disch := first | assumption | omega | rfl | exact fun _ => rfl) only [Job.a, vP]) | ((with_reducible first | apply gsnd | apply csnd | apply gsd | apply csd | apply gsn | apply csn | apply gs | apply cs_) <;> intro _) | (with_reducible refine freshQ_i (fun _ _ => ?_))))
        refine appK_v q1 hcn hx1 (by simp; omega) (by simp; omega) (fun t3 g3 => ?_)
        have ho2 := (ho.next g3).swap
        have q2 := ho2.has
        (repeat' (first | (simp (maxDischargeDepth := 16) only [*, Job.a, vX, ↓vD, vU, ↓vMd, vMu, vZ, seval]) | (simp (disch := first | assumption | omega | rfl | exact fun _ => rfl) only [Job.a, vP]) | ((with_reducible first | apply gsnd | apply csnd | apply gsd | apply csd | apply gsn | apply csn | apply gs | apply cs_) <;> intro _) | (with_reducible refine freshQ_i (fun _ _ => ?_))))
        refine appK_v q2 hdn hx1 (by simp; omega) (by simp; omega) (fun t4 g4 => ?_)
        (repeat' (first | (simp (maxDischargeDepth := 16) only [*, Job.a, vX, ↓vD, vU, ↓vMd, vMu, vZ, seval]) | (simp (disch := first | assumption | omega | rfl | exact fun _ => rfl) only [Job.a, vP]) | ((with_reducible first | apply gsnd | apply csnd | apply gsd | apply csd | apply gsn | apply csn | apply gs | apply cs_) <;> intro _) | (with_reducible refine freshQ_i (fun _ _ => ?_))))
        refine ⟨_, St.le.refl _, c ++ [x], d ++ [x], t3, t4, (ho2.next g4).swap, by omega, by simp [Job.a], by simp [Job.a], by simp; omega, by simp; omega, ⟨HN.out.2.1, ?_⟩⟩
        have := HN.out
        rw [this.2.2]; simp [this.1, hs]
    · rintro fr s' hfr hd ⟨c, d, t1, t2, ho, h13, h11, h12, hcl, hdl, HC⟩
      have HD := HC.out
      clear HC
      rw [List.take_of_length_le (by simp)] at HD
      obtain ⟨hc, hd'⟩ := HD
      have hun := ho.under
      have v1 := Victims_p c (by omega) t1 need ⟨n1, n2⟩
      have v2 := Victims_p d (by omega) t2 need ⟨n1, n2⟩
      have v3 := Order_p c (by omega) t1
      rw [VR.out c (.inl hc)] at v1
      rw [VR.out d (.inr hd')] at v2
      rw [show orderF c = orderF l by rw [hc, OR.out]] at v3
      simp only at v1 v2
      clear hc hd' VR OR
      (repeat' (first | (simp (maxDischargeDepth := 16) only [*, vX, ↓vD, vU, ↓vMd, vMu, vZ, seval]) | (simp (disch := first | assumption | omega | rfl | exact fun _ => rfl) only [vP]) | ((with_reducible first | apply gsnd | apply csnd | apply gsd | apply csd | apply gsn | apply csn | apply gs | apply cs_) <;> intro _) | (with_reducible refine freshQ_i (fun _ _ => ?_)) | (with_reducible first | refine callH_use (v1) ?_ | refine pureQ_use (v1) ?_) | (with_reducible first | refine callH_use (v2) ?_ | refine pureQ_use (v2) ?_) | (with_reducible first | refine callH_use (s1) ?_ | refine pureQ_use (s1) ?_) | (with_reducible first | refine callH_use (v3) ?_ | refine pureQ_use (v3) ?_) | (with_reducible first | refine callH_use (o1) ?_ | refine pureQ_use (o1) ?_) | (with_reducible first | refine callH_use (s2) ?_ | refine pureQ_use (s2) ?_) | (with_reducible first | refine callH_use (head_25) ?_ | refine pureQ_use (head_25) ?_)))
      all_goals trace_state
end Go.Proofs.Ytglekfgoadehbaa.V
end
section
/- Jobs that are handed in, of bulk at most so much. -/
namespace Go.Proofs.Ytglekfgoadehbaa.V
open Go Go.ChangeShapes Go.WideShapes Go.ChangeAt Go.RowKit Go.Deep
set_option maxRecDepth 100000
theorem bulk_one {H : Type} (d : DataW H) : 1 ≤ Rows.uptoBulk d := by
  cases d with
  | lit l => cases l <;> simp [Rows.uptoBulk]
  | _ => simp [Rows.uptoBulk]
theorem bulk_len {H : Type} : ∀ (l : List (DataW H)), l.length ≤ Rows.uptoBulkAll l
  | [] => by simp
  | d :: r => by have := bulk_one d; have := bulk_len r; simp only [Rows.uptoBulkAll, List.length_cons]; omega
theorem open_slU {α : Type} [Inhabited α] {t e : TypeId} {sz : Nat} {f : α → AV} {wf : α → Prop} (ht : Try.prog.underlying t = some (.slice e)) (hsz : Try.prog.cellsOf e = sz) (hp : 0 < sz) (hO : Opn e sz f wf)
    {H : Type} {enc : TypeId × Value → H} {w : World} {base base' : Nat} {spare : Nat → Bool} {held : Bool} {v : Value} {d : DataW H} {ps : List MemPlace} {r : Reach} (hval : Value.okWide Try.prog w r base' t v) (h : DataW.Trod enc Try.prog w base spare held t v d ps) :
    ∃ xs : List α, Rep (imW w) (.sl (xs.map f) .no) v ∧ (∀ x ∈ xs, wf x) ∧ xs.length ≤ Rows.uptoBulk d := by
  obtain ⟨a0, len0, cap0, rfl⟩ := okWide_slice ht hval
  obtain ⟨fuel, hf⟩ := h
  have hf : DataW.trod enc Try.prog w base spare held fuel t [.slice a0 len0 cap0] = some (d, ps) := hf
  obtain ⟨xs, h1, _, h3, h4⟩ := opn_sl ht hsz hp hO hf
  refine ⟨xs, h1.1, h3, ?_⟩
  have hl : len0 = xs.length := by
    have h2 := h1.1
    simp only [Rep] at h2
    obtain ⟨_, _, _, h2, _⟩ := h2
    injection h2 with _ h2 _
    simpa using h2
  rcases open_slice ht hf with ⟨hx, _⟩ | ⟨a, len, cap, m, n, D, Pl, hcs, _, _, _, _, hx, _⟩
  · simp at hx; omega
  · obtain rfl : d = _ := congrArg Prod.fst hx
    have e : len0 = len := by simp at hcs; exact hcs.2.1
    have := bulk_len ((List.range len).map D)
    simp only [Rows.uptoBulk]
    simp at this ⊢
    omega
theorem open_u32 {H : Type} {enc : TypeId × Value → H} {w : World} {base base' : Nat} {spare : Nat → Bool} {held : Bool} {v : Value} {d : DataW H} {ps : List MemPlace} {r : Reach} (hval : Value.okWide Try.prog w r base' 31 v) (h : DataW.Trod enc Try.prog w base spare held 31 v d ps) :
    ∃ n : Int, Rep (imW w) (.int .u32 n) v ∧ (0 ≤ n ∧ n ≤ 4294967295) := by
  obtain ⟨n, rfl, _, _, hw⟩ := open_int Try.underlying31 hval h
  exact ⟨n, by simp [Rep], u32_of hw⟩
theorem preemptMore_r {B : Nat} (l : List Job) (_ : ∀ x ∈ l, True) (hn : l.length ≤ B) (need : Int) (h : I64 need) (more : Int) (hm : 0 ≤ more ∧ more ≤ 4294967295) (hB : B ≤ 1048576) : VPure Try.prog 5 [.sl (l.map Job.a) .no, .int .i64 need, .int .u32 more] (.bool true) :=
  preemptMore_v l (by omega) need h more hm
end Go.Proofs.Ytglekfgoadehbaa.V
end
