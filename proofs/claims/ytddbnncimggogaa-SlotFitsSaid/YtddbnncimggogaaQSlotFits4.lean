/- Texts of this claim, joined: Cslot2, Cslot4, VXliveryref16, VXliverylaw16, Cslot5, VOpn, Cslot6, Cslot7. -/
import Derived.Test.YtddbnncimggogaaQSlotFits3
import Derived.Test.YtddbnncimggogaaQSlotFits2
import Derived.Test.YtddbnncimggogaaQSlotFits1
import Derived.Test.YtddbnncimggogaaProg
import Derived.OpenShut
section
set_option linter.unusedSimpArgs false
set_option linter.unusedVariables false
/- slot.without. -/
namespace Go.Proofs.Ytddbnncimggogaa.V
open Go Go.Proofs
set_option maxRecDepth 100000
set_option maxHeartbeats 4000000
def cutN (x w : Vec) : Nat → List Vec
  | 0 => []
  | 1 => if w.m < min w.c x.m then [⟨w.m, min w.c x.m⟩] else []
  | _ => cutW x w
theorem cutN1 (x w : Vec) : cutN x w 2 = cutN x w 1 ++ (if max w.m x.c < w.c then [⟨max w.m x.c, w.c⟩] else []) := rfl
theorem without_v (l : List Vec) (hl : l.length ≤ 100000000) (t : Tok) (x : Vec) : VPure Try.prog 84 [.sl (l.map Vec.a) t, .agg [.int .i64 x.m, .int .i64 x.c]] (.sl ((withoutF l x).map Vec.a) .no) := by
  refine VPure.tok (fun Z st => ?_)
  refine VCalls.of v_slot_without_ok (Nat.le_of_ble_eq_true rfl) ?_
  simp only [v_slot_without, ↓vD, vU, VE.ev, VE.evs, retvs, tupOf, grab, vfill, vbsl, eqCells, eqCell, veqs, veqs1, vmnx, AV.isCell, AV.isUndef, Nat.reduceEqDiff, Nat.reduceAdd, Nat.reduceSub, Nat.reduceLeDiff, Nat.reduceLT, reduceIte, reduceCtorEq, Nat.reduceBEq, k_app, k_slc1]
  (repeat' (first | (simp (config := { maxDischargeDepth := 16 }) only [*, cut0, vX, Int.reduceLE, Int.reduceLT, Int.reduceGE, Int.reduceGT, Int.reduceBEq, Int.reduceBNe, Int.reduceAdd, Int.reduceSub, Int.reduceMul, Int.reduceNeg, ↓vD, vU, VE.ev, VE.evs, retvs, tupOf, grab, vfill, vbsl, eqCells, eqCell, veqs, veqs1, vmnx, AV.isCell, AV.isUndef, Nat.reduceEqDiff, Nat.reduceAdd, Nat.reduceSub, Nat.reduceLeDiff, Nat.reduceLT, reduceIte, reduceCtorEq, Nat.reduceBEq]) | (simp (disch := first | assumption | omega | exact Seg.len _ | exact Vec.len _ | exact Leg.len _ | exact num_len _ | exact rowA_len _ | exact rowA_len | exact rowT_len _ | exact rowT_len | exact Seg.len | exact Vec.len | exact Leg.len | exact num_len | exact AV.slen _ _ | rfl) only [cut0, vP]) | (with_reducible (first | refine gsnd (fun _ => ?_) (fun _ => ?_) | refine csnd (fun _ => ?_) (fun _ => ?_) | refine gsd (fun _ => ?_) (fun _ => ?_) | refine csd (fun _ => ?_) (fun _ => ?_) | refine gsn (fun _ => ?_) (fun _ => ?_) | refine csn (fun _ => ?_) (fun _ => ?_))) | (with_reducible refine gs (fun _ => ?_) (fun _ => ?_)) | (with_reducible refine cs_ (fun _ => ?_) (fun _ => ?_)) | (with_reducible refine objQ_i (fun _ _ => ?_); (repeat (with_reducible refine imp_i (fun _ => ?_)))) | ((try with_reducible refine appK_a ?_); first | (with_reducible refine appD_F (by refine ⟨?_, ?_, ?_, ?_⟩ <;> (first | assumption | omega | exact St.has_add (by assumption) | (simp only [ins_has]; exact St.has_add (by assumption)) | (simp only [ins_has, fresh_ins, kill_ins, add_ins] at *; exact St.has_add (by assumption)) | (simp only [*, ins_has, has_full, St.has_add]; done) | (simp [-List.map_take, -List.map_drop, or_imp, forall_and, Seg.a, Vec.a, Leg.a, num, okEl, cells_agg, cells_int, cells_sl, cells_bool, AV.isCell]; done) | (simp; omega))) (fun _ _ => ?_)) | (with_reducible refine appD_V (by refine ⟨?_, ?_, ?_, ?_, ?_⟩ <;> (first | assumption | omega | exact St.has_add (by assumption) | (simp only [ins_has]; exact St.has_add (by assumption)) | (simp only [ins_has, fresh_ins, kill_ins, add_ins] at *; exact St.has_add (by assumption)) | (simp only [*, ins_has, has_full, St.has_add]; done) | (simp [-List.map_take, -List.map_drop, or_imp, forall_and, Seg.a, Vec.a, Leg.a, num, okEl, cells_agg, cells_int, cells_sl, cells_bool, AV.isCell]; done) | (simp; omega))) (fun _ _ => ?_))) | (with_reducible refine freshQ_i (fun _ _ => ?_)) | (with_reducible refine nilQ_i (fun _ _ => ?_))))
  rename_i b3 h3
  refine loopf_of (len := l.length) (by simp only [asgL, dsts, List.cons_append, List.nil_append, List.append_nil]; rfl) (by simp only [noR, Bool.and_true, Bool.and_false]; rfl) (by omega) (fun k fr s => ∃ acc tk S, s = S.ins b3 (.cells [.int .i64 x.m, .int .i64 x.c]) ∧ Ours 2 st S tk ∧ fr.t 14 = .int .i64 k ∧ fr.t 5 = .sl (acc.map Vec.a) tk ∧ Hid (acc = withoutF (l.take k) x) ∧ acc.length ≤ 2 * k) ?_ ?_ ?_
  · exact ⟨[], .full, st, rfl, Ours.full 2 st, by simp [↓vD, vU, VE.ev, VE.evs, retvs, tupOf, grab, vfill, vbsl, eqCells, eqCell, veqs, veqs1, vmnx, AV.isCell, AV.isUndef, Nat.reduceEqDiff, Nat.reduceAdd, Nat.reduceSub, Nat.reduceLeDiff, Nat.reduceLT, reduceIte, reduceCtorEq, Nat.reduceBEq, k_app, k_slc1], by simp [↓vD, vU, VE.ev, VE.evs, retvs, tupOf, grab, vfill, vbsl, eqCells, eqCell, veqs, veqs1, vmnx, AV.isCell, AV.isUndef, Nat.reduceEqDiff, Nat.reduceAdd, Nat.reduceSub, Nat.reduceLeDiff, Nat.reduceLT, reduceIte, reduceCtorEq, Nat.reduceBEq, k_app, k_slc1], ⟨rfl⟩, by simp⟩
  · rintro k fr s hk hw hfr hd ⟨acc, tk, S, rfl, ho, h14, h5, HA, hal⟩
    have hb3 : S.objs b3 = none := by rw [ho.objs]; exact h3
    obtain ⟨w, hx⟩ : ∃ w, l[k] = w := ⟨_, rfl⟩
    have HX := Hid.mk hx
    (repeat' (first | (simp (config := { maxDischargeDepth := 16 }) only [*, Vec.a, vX, Int.reduceLE, Int.reduceLT, Int.reduceGE, Int.reduceGT, Int.reduceBEq, Int.reduceBNe, Int.reduceAdd, Int.reduceSub, Int.reduceMul, Int.reduceNeg, ↓vD, vU, VE.ev, VE.evs, retvs, tupOf, grab, vfill, vbsl, eqCells, eqCell, veqs, veqs1, vmnx, AV.isCell, AV.isUndef, Nat.reduceEqDiff, Nat.reduceAdd, Nat.reduceSub, Nat.reduceLeDiff, Nat.reduceLT, reduceIte, reduceCtorEq, Nat.reduceBEq]) | (simp (disch := first | assumption | omega | exact Seg.len _ | exact Vec.len _ | exact Leg.len _ | exact num_len _ | exact rowA_len _ | exact rowA_len | exact rowT_len _ | exact rowT_len | exact Seg.len | exact Vec.len | exact Leg.len | exact num_len | exact AV.slen _ _ | rfl) only [Vec.a, vP]) | (with_reducible (first | refine gsnd (fun _ => ?_) (fun _ => ?_) | refine csnd (fun _ => ?_) (fun _ => ?_) | refine gsd (fun _ => ?_) (fun _ => ?_) | refine csd (fun _ => ?_) (fun _ => ?_) | refine gsn (fun _ => ?_) (fun _ => ?_) | refine csn (fun _ => ?_) (fun _ => ?_))) | (with_reducible refine gs (fun _ => ?_) (fun _ => ?_)) | (with_reducible refine cs_ (fun _ => ?_) (fun _ => ?_)) | (with_reducible refine objQ_i (fun _ _ => ?_); (repeat (with_reducible refine imp_i (fun _ => ?_)))) | ((try with_reducible refine appK_a ?_); first | (with_reducible refine appD_F (by refine ⟨?_, ?_, ?_, ?_⟩ <;> (first | assumption | omega | exact St.has_add (by assumption) | (simp only [ins_has]; exact St.has_add (by assumption)) | (simp only [ins_has, fresh_ins, kill_ins, add_ins] at *; exact St.has_add (by assumption)) | (simp only [*, ins_has, has_full, St.has_add]; done) | (simp [-List.map_take, -List.map_drop, or_imp, forall_and, Seg.a, Vec.a, Leg.a, num, okEl, cells_agg, cells_int, cells_sl, cells_bool, AV.isCell]; done) | (simp; omega))) (fun _ _ => ?_)) | (with_reducible refine appD_V (by refine ⟨?_, ?_, ?_, ?_, ?_⟩ <;> (first | assumption | omega | exact St.has_add (by assumption) | (simp only [ins_has]; exact St.has_add (by assumption)) | (simp only [ins_has, fresh_ins, kill_ins, add_ins] at *; exact St.has_add (by assumption)) | (simp only [*, ins_has, has_full, St.has_add]; done) | (simp [-List.map_take, -List.map_drop, or_imp, forall_and, Seg.a, Vec.a, Leg.a, num, okEl, cells_agg, cells_int, cells_sl, cells_bool, AV.isCell]; done) | (simp; omega))) (fun _ _ => ?_))) | (with_reducible refine freshQ_i (fun _ _ => ?_)) | (with_reducible refine nilQ_i (fun _ _ => ?_))))
    rename_i b7 h7 n73 n37
    refine loopf_of (len := 2) (by simp only [asgL, dsts, List.cons_append, List.nil_append, List.append_nil]; rfl) (by simp only [noR, Bool.and_true, Bool.and_false]; rfl) (by omega) (fun j fr2 s2 => ∃ acc2 tk2 S2, s2 = (S2.ins b3 (.cells [.int .i64 x.m, .int .i64 x.c])).ins b7 (.cells [.int .i64 w.m, .int .i64 w.c]) ∧ Ours 2 st S2 tk2 ∧ fr2.t 35 = .int .i64 j ∧ fr2.t 5 = .sl (acc2.map Vec.a) tk2 ∧ Hid (acc2 = acc ++ cutN x w j) ∧ acc2.length ≤ 2 * k + j) ?_ ?_ ?_
    · exact ⟨acc, tk, S, rfl, ho, by simp [↓vD, vU, VE.ev, VE.evs, retvs, tupOf, grab, vfill, vbsl, eqCells, eqCell, veqs, veqs1, vmnx, AV.isCell, AV.isUndef, Nat.reduceEqDiff, Nat.reduceAdd, Nat.reduceSub, Nat.reduceLeDiff, Nat.reduceLT, reduceIte, reduceCtorEq, Nat.reduceBEq, k_app, k_slc1], by simp [↓vD, vU, VE.ev, VE.evs, retvs, tupOf, grab, vfill, vbsl, eqCells, eqCell, veqs, veqs1, vmnx, AV.isCell, AV.isUndef, Nat.reduceEqDiff, Nat.reduceAdd, Nat.reduceSub, Nat.reduceLeDiff, Nat.reduceLT, reduceIte, reduceCtorEq, Nat.reduceBEq, k_app, k_slc1, *], ⟨by simp [cutN]⟩, by omega⟩
    · rintro j fr2 s2 hj hw2 hfr2 hd2 ⟨acc2, tk2, S2, rfl, ho2, h35, h52, HA2, hal2⟩
      have hts := ho2.has
      have hob : S2.objs = S.objs := ho2.objs.trans ho.objs.symm
      have h3' : S2.objs b3 = none := by rw [hob]; exact hb3
      have h7' : S2.objs b7 = none := by rw [hob]; exact h7
      rcases (by omega : j = 0 ∨ j = 1) with rfl | rfl
      · simp only [Int.cast_ofNat_Int, Int.natCast_zero] at hw2 h35
        (repeat' (first | (simp (config := { maxDischargeDepth := 16 }) only [*, Vec.a, grab01, vX, Int.reduceLE, Int.reduceLT, Int.reduceGE, Int.reduceGT, Int.reduceBEq, Int.reduceBNe, Int.reduceAdd, Int.reduceSub, Int.reduceMul, Int.reduceNeg, ↓vD, vU, VE.ev, VE.evs, retvs, tupOf, grab, vfill, vbsl, eqCells, eqCell, veqs, veqs1, vmnx, AV.isCell, AV.isUndef, Nat.reduceEqDiff, Nat.reduceAdd, Nat.reduceSub, Nat.reduceLeDiff, Nat.reduceLT, reduceIte, reduceCtorEq, Nat.reduceBEq]) | (simp (disch := first | assumption | omega | exact Seg.len _ | exact Vec.len _ | exact Leg.len _ | exact num_len _ | exact rowA_len _ | exact rowA_len | exact rowT_len _ | exact rowT_len | exact Seg.len | exact Vec.len | exact Leg.len | exact num_len | exact AV.slen _ _ | rfl) only [Vec.a, grab01, vP]) | (with_reducible (first | refine gsnd (fun _ => ?_) (fun _ => ?_) | refine csnd (fun _ => ?_) (fun _ => ?_) | refine gsd (fun _ => ?_) (fun _ => ?_) | refine csd (fun _ => ?_) (fun _ => ?_) | refine gsn (fun _ => ?_) (fun _ => ?_) | refine csn (fun _ => ?_) (fun _ => ?_))) | (with_reducible refine gs (fun _ => ?_) (fun _ => ?_)) | (with_reducible refine cs_ (fun _ => ?_) (fun _ => ?_)) | (with_reducible refine objQ_i (fun _ _ => ?_); (repeat (with_reducible refine imp_i (fun _ => ?_)))) | ((try with_reducible refine appK_a ?_); first | (with_reducible refine appD_F (by refine ⟨?_, ?_, ?_, ?_⟩ <;> (first | assumption | omega | exact St.has_add (by assumption) | (simp only [ins_has]; exact St.has_add (by assumption)) | (simp only [ins_has, fresh_ins, kill_ins, add_ins] at *; exact St.has_add (by assumption)) | (simp only [*, ins_has, has_full, St.has_add]; done) | (simp [-List.map_take, -List.map_drop, or_imp, forall_and, Seg.a, Vec.a, Leg.a, num, okEl, cells_agg, cells_int, cells_sl, cells_bool, AV.isCell]; done) | (simp; omega))) (fun _ _ => ?_)) | (with_reducible refine appD_V (by refine ⟨?_, ?_, ?_, ?_, ?_⟩ <;> (first | assumption | omega | exact St.has_add (by assumption) | (simp only [ins_has]; exact St.has_add (by assumption)) | (simp only [ins_has, fresh_ins, kill_ins, add_ins] at *; exact St.has_add (by assumption)) | (simp only [*, ins_has, has_full, St.has_add]; done) | (simp [-List.map_take, -List.map_drop, or_imp, forall_and, Seg.a, Vec.a, Leg.a, num, okEl, cells_agg, cells_int, cells_sl, cells_bool, AV.isCell]; done) | (simp; omega))) (fun _ _ => ?_))) | (with_reducible refine freshQ_i (fun _ _ => ?_)) | (with_reducible refine nilQ_i (fun _ _ => ?_))))
        · rename_i b9 h9 n1 n2 n3 n4 hc t1 hf
          have ho3 := ho2.next (t' := t1) (by simpa only [kill_ins, fresh_ins] using hf)
          refine ⟨_, by (refine ⟨fun i o e => ?_, fun _ h => h⟩; revert e; simp only [St.ins, St.del, add_objs, kill_objs]; (repeat' split); all_goals (first | exact id | (intros; contradiction) | (intros; subst_vars; contradiction) | (intros; simp_all; done) | (intros; subst_vars; simp_all; done))), acc2 ++ [⟨w.m, min w.c x.m⟩], t1, _, rfl, ho3, by simp [Vec.a], ⟨?_⟩, by simp; omega⟩
          rw [HA2.out]; simp [cutN, hc]
        · rename_i b9 h9 n1 n2 n3 n4 hc
          refine ⟨_, by (refine ⟨fun i o e => ?_, fun _ h => h⟩; revert e; simp only [St.ins, St.del, add_objs, kill_objs]; (repeat' split); all_goals (first | exact id | (intros; contradiction) | (intros; subst_vars; contradiction) | (intros; simp_all; done) | (intros; subst_vars; simp_all; done))), acc2, tk2, _, rfl, ho2, rfl, ⟨?_⟩, by omega⟩
          rw [HA2.out]; simp [cutN, hc]
      · simp only [Int.cast_ofNat_Int, Int.natCast_one] at hw2 h35
        (repeat' (first | (simp (config := { maxDischargeDepth := 16 }) only [*, Vec.a, grab23, vX, Int.reduceLE, Int.reduceLT, Int.reduceGE, Int.reduceGT, Int.reduceBEq, Int.reduceBNe, Int.reduceAdd, Int.reduceSub, Int.reduceMul, Int.reduceNeg, ↓vD, vU, VE.ev, VE.evs, retvs, tupOf, grab, vfill, vbsl, eqCells, eqCell, veqs, veqs1, vmnx, AV.isCell, AV.isUndef, Nat.reduceEqDiff, Nat.reduceAdd, Nat.reduceSub, Nat.reduceLeDiff, Nat.reduceLT, reduceIte, reduceCtorEq, Nat.reduceBEq]) | (simp (disch := first | assumption | omega | exact Seg.len _ | exact Vec.len _ | exact Leg.len _ | exact num_len _ | exact rowA_len _ | exact rowA_len | exact rowT_len _ | exact rowT_len | exact Seg.len | exact Vec.len | exact Leg.len | exact num_len | exact AV.slen _ _ | rfl) only [Vec.a, grab23, vP]) | (with_reducible (first | refine gsnd (fun _ => ?_) (fun _ => ?_) | refine csnd (fun _ => ?_) (fun _ => ?_) | refine gsd (fun _ => ?_) (fun _ => ?_) | refine csd (fun _ => ?_) (fun _ => ?_) | refine gsn (fun _ => ?_) (fun _ => ?_) | refine csn (fun _ => ?_) (fun _ => ?_))) | (with_reducible refine gs (fun _ => ?_) (fun _ => ?_)) | (with_reducible refine cs_ (fun _ => ?_) (fun _ => ?_)) | (with_reducible refine objQ_i (fun _ _ => ?_); (repeat (with_reducible refine imp_i (fun _ => ?_)))) | ((try with_reducible refine appK_a ?_); first | (with_reducible refine appD_F (by refine ⟨?_, ?_, ?_, ?_⟩ <;> (first | assumption | omega | exact St.has_add (by assumption) | (simp only [ins_has]; exact St.has_add (by assumption)) | (simp only [ins_has, fresh_ins, kill_ins, add_ins] at *; exact St.has_add (by assumption)) | (simp only [*, ins_has, has_full, St.has_add]; done) | (simp [-List.map_take, -List.map_drop, or_imp, forall_and, Seg.a, Vec.a, Leg.a, num, okEl, cells_agg, cells_int, cells_sl, cells_bool, AV.isCell]; done) | (simp; omega))) (fun _ _ => ?_)) | (with_reducible refine appD_V (by refine ⟨?_, ?_, ?_, ?_, ?_⟩ <;> (first | assumption | omega | exact St.has_add (by assumption) | (simp only [ins_has]; exact St.has_add (by assumption)) | (simp only [ins_has, fresh_ins, kill_ins, add_ins] at *; exact St.has_add (by assumption)) | (simp only [*, ins_has, has_full, St.has_add]; done) | (simp [-List.map_take, -List.map_drop, or_imp, forall_and, Seg.a, Vec.a, Leg.a, num, okEl, cells_agg, cells_int, cells_sl, cells_bool, AV.isCell]; done) | (simp; omega))) (fun _ _ => ?_))) | (with_reducible refine freshQ_i (fun _ _ => ?_)) | (with_reducible refine nilQ_i (fun _ _ => ?_))))
        · rename_i b9 h9 n1 n2 n3 n4 hc t1 hf
          have ho3 := ho2.next (t' := t1) (by simpa only [kill_ins, fresh_ins] using hf)
          refine ⟨_, by (refine ⟨fun i o e => ?_, fun _ h => h⟩; revert e; simp only [St.ins, St.del, add_objs, kill_objs]; (repeat' split); all_goals (first | exact id | (intros; contradiction) | (intros; subst_vars; contradiction) | (intros; simp_all; done) | (intros; subst_vars; simp_all; done))), acc2 ++ [⟨max w.m x.c, w.c⟩], t1, _, rfl, ho3, by simp [Vec.a], ⟨?_⟩, by simp; omega⟩
          rw [HA2.out, cutN1, if_pos hc, List.append_assoc]
        · rename_i b9 h9 n1 n2 n3 n4 hc
          refine ⟨_, by (refine ⟨fun i o e => ?_, fun _ h => h⟩; revert e; simp only [St.ins, St.del, add_objs, kill_objs]; (repeat' split); all_goals (first | exact id | (intros; contradiction) | (intros; subst_vars; contradiction) | (intros; simp_all; done) | (intros; subst_vars; simp_all; done))), acc2, tk2, _, rfl, ho2, rfl, ⟨?_⟩, by omega⟩
          rw [HA2.out, cutN1, if_neg hc, List.append_nil]
    · rintro fr2 s2 hfr2 hd2 ⟨acc2, tk2, S2, rfl, ho2, h35, h52, HA2, hal2⟩
      have hob : S2.objs = S.objs := ho2.objs.trans ho.objs.symm
      have h3' : S2.objs b3 = none := by rw [hob]; exact hb3
      have h7' : S2.objs b7 = none := by rw [hob]; exact h7
      (repeat' (first | (simp (config := { maxDischargeDepth := 16 }) only [*, Vec.a, vX, Int.reduceLE, Int.reduceLT, Int.reduceGE, Int.reduceGT, Int.reduceBEq, Int.reduceBNe, Int.reduceAdd, Int.reduceSub, Int.reduceMul, Int.reduceNeg, ↓vD, vU, VE.ev, VE.evs, retvs, tupOf, grab, vfill, vbsl, eqCells, eqCell, veqs, veqs1, vmnx, AV.isCell, AV.isUndef, Nat.reduceEqDiff, Nat.reduceAdd, Nat.reduceSub, Nat.reduceLeDiff, Nat.reduceLT, reduceIte, reduceCtorEq, Nat.reduceBEq]) | (simp (disch := first | assumption | omega | exact Seg.len _ | exact Vec.len _ | exact Leg.len _ | exact num_len _ | exact rowA_len _ | exact rowA_len | exact rowT_len _ | exact rowT_len | exact Seg.len | exact Vec.len | exact Leg.len | exact num_len | exact AV.slen _ _ | rfl) only [Vec.a, vP]) | (with_reducible (first | refine gsnd (fun _ => ?_) (fun _ => ?_) | refine csnd (fun _ => ?_) (fun _ => ?_) | refine gsd (fun _ => ?_) (fun _ => ?_) | refine csd (fun _ => ?_) (fun _ => ?_) | refine gsn (fun _ => ?_) (fun _ => ?_) | refine csn (fun _ => ?_) (fun _ => ?_))) | (with_reducible refine gs (fun _ => ?_) (fun _ => ?_)) | (with_reducible refine cs_ (fun _ => ?_) (fun _ => ?_)) | (with_reducible refine objQ_i (fun _ _ => ?_); (repeat (with_reducible refine imp_i (fun _ => ?_)))) | ((try with_reducible refine appK_a ?_); first | (with_reducible refine appD_F (by refine ⟨?_, ?_, ?_, ?_⟩ <;> (first | assumption | omega | exact St.has_add (by assumption) | (simp only [ins_has]; exact St.has_add (by assumption)) | (simp only [ins_has, fresh_ins, kill_ins, add_ins] at *; exact St.has_add (by assumption)) | (simp only [*, ins_has, has_full, St.has_add]; done) | (simp [-List.map_take, -List.map_drop, or_imp, forall_and, Seg.a, Vec.a, Leg.a, num, okEl, cells_agg, cells_int, cells_sl, cells_bool, AV.isCell]; done) | (simp; omega))) (fun _ _ => ?_)) | (with_reducible refine appD_V (by refine ⟨?_, ?_, ?_, ?_, ?_⟩ <;> (first | assumption | omega | exact St.has_add (by assumption) | (simp only [ins_has]; exact St.has_add (by assumption)) | (simp only [ins_has, fresh_ins, kill_ins, add_ins] at *; exact St.has_add (by assumption)) | (simp only [*, ins_has, has_full, St.has_add]; done) | (simp [-List.map_take, -List.map_drop, or_imp, forall_and, Seg.a, Vec.a, Leg.a, num, okEl, cells_agg, cells_int, cells_sl, cells_bool, AV.isCell]; done) | (simp; omega))) (fun _ _ => ?_))) | (with_reducible refine freshQ_i (fun _ _ => ?_)) | (with_reducible refine nilQ_i (fun _ _ => ?_))))
      refine ⟨_, by (refine ⟨fun i o e => ?_, fun _ h => h⟩; revert e; simp only [St.ins, St.del, add_objs, kill_objs]; (repeat' split); all_goals (first | exact id | (intros; contradiction) | (intros; subst_vars; contradiction) | (intros; simp_all; done) | (intros; subst_vars; simp_all; done))), acc2, tk2, S2, rfl, ho2, rfl, ⟨?_⟩, by omega⟩
      rw [HA2.out, HA.out, withoutF_take hk, HX.out]; rfl
  · rintro fr s hfr hd ⟨acc, tk, S, rfl, ho, h14, h5, HA, hal⟩
    have hb3 : S.objs b3 = none := by rw [ho.objs]; exact h3
    have hun := ho.under
    (repeat' (first | (simp (config := { maxDischargeDepth := 16 }) only [*, vX, Int.reduceLE, Int.reduceLT, Int.reduceGE, Int.reduceGT, Int.reduceBEq, Int.reduceBNe, Int.reduceAdd, Int.reduceSub, Int.reduceMul, Int.reduceNeg, ↓vD, vU, VE.ev, VE.evs, retvs, tupOf, grab, vfill, vbsl, eqCells, eqCell, veqs, veqs1, vmnx, AV.isCell, AV.isUndef, Nat.reduceEqDiff, Nat.reduceAdd, Nat.reduceSub, Nat.reduceLeDiff, Nat.reduceLT, reduceIte, reduceCtorEq, Nat.reduceBEq]) | (simp (disch := first | assumption | omega | exact Seg.len _ | exact Vec.len _ | exact Leg.len _ | exact num_len _ | exact rowA_len _ | exact rowA_len | exact rowT_len _ | exact rowT_len | exact Seg.len | exact Vec.len | exact Leg.len | exact num_len | exact AV.slen _ _ | rfl) only [vP]) | (with_reducible (first | refine gsnd (fun _ => ?_) (fun _ => ?_) | refine csnd (fun _ => ?_) (fun _ => ?_) | refine gsd (fun _ => ?_) (fun _ => ?_) | refine csd (fun _ => ?_) (fun _ => ?_) | refine gsn (fun _ => ?_) (fun _ => ?_) | refine csn (fun _ => ?_) (fun _ => ?_))) | (with_reducible refine gs (fun _ => ?_) (fun _ => ?_)) | (with_reducible refine cs_ (fun _ => ?_) (fun _ => ?_)) | (with_reducible refine objQ_i (fun _ _ => ?_); (repeat (with_reducible refine imp_i (fun _ => ?_)))) | ((try with_reducible refine appK_a ?_); first | (with_reducible refine appD_F (by refine ⟨?_, ?_, ?_, ?_⟩ <;> (first | assumption | omega | exact St.has_add (by assumption) | (simp only [ins_has]; exact St.has_add (by assumption)) | (simp only [ins_has, fresh_ins, kill_ins, add_ins] at *; exact St.has_add (by assumption)) | (simp only [*, ins_has, has_full, St.has_add]; done) | (simp [-List.map_take, -List.map_drop, or_imp, forall_and, Seg.a, Vec.a, Leg.a, num, okEl, cells_agg, cells_int, cells_sl, cells_bool, AV.isCell]; done) | (simp; omega))) (fun _ _ => ?_)) | (with_reducible refine appD_V (by refine ⟨?_, ?_, ?_, ?_, ?_⟩ <;> (first | assumption | omega | exact St.has_add (by assumption) | (simp only [ins_has]; exact St.has_add (by assumption)) | (simp only [ins_has, fresh_ins, kill_ins, add_ins] at *; exact St.has_add (by assumption)) | (simp only [*, ins_has, has_full, St.has_add]; done) | (simp [-List.map_take, -List.map_drop, or_imp, forall_and, Seg.a, Vec.a, Leg.a, num, okEl, cells_agg, cells_int, cells_sl, cells_bool, AV.isCell]; done) | (simp; omega))) (fun _ _ => ?_))) | (with_reducible refine freshQ_i (fun _ _ => ?_)) | (with_reducible refine nilQ_i (fun _ _ => ?_))))
    refine ⟨st, hun.trans (by (refine ⟨fun i o e => ?_, fun _ h => h⟩; revert e; simp only [St.ins, St.del, add_objs, kill_objs]; (repeat' split); all_goals (first | exact id | (intros; contradiction) | (intros; subst_vars; contradiction) | (intros; simp_all; done) | (intros; subst_vars; simp_all; done)))), tk, ?_, rfl⟩
    rw [HA.out, List.take_length]
end Go.Proofs.Ytddbnncimggogaa.V
end
section
set_option linter.unusedSimpArgs false
set_option linter.unusedVariables false
/- slot.Begins. -/
namespace Go.Proofs.Ytddbnncimggogaa.V
open Go Go.Proofs
set_option maxRecDepth 100000
set_option maxHeartbeats 4000000
theorem Begins_c (f : List Seg) (hf : f.length ≤ 1000000) (w : Vec) (h1 : -9223372036854775808 ≤ w.m) (h2 : w.c ≤ 9223372036854775807) (l : List Leg) (hl : l.length ≤ 1000000000) (t t' : Tok) :
    VPure Try.prog 42 [.sl (f.map Seg.a) t, .agg [.int .i64 w.m, .int .i64 w.c], .sl (l.map Leg.a) t'] (.tup [.sl ((beginsF f w l).1.map Vec.a) .no, num (beginsF f w l).2]) := by
  refine VPure.tokT (fun Z st => ?_)
  have hck := check_v f (by omega) w h1 h2 l hl t t'
  obtain ⟨q, hq⟩ : ∃ q, checkF f w l = q := ⟨_, rfl⟩
  rw [hq] at hck
  unfold num at hck
  by_cases hok : q.2 = 0
  case neg =>
    have HB : Hid (beginsF f w l = ([], q.2)) := ⟨by unfold beginsF; rw [hq, if_pos (.inl hok)]⟩
    clear hq
    refine VCalls.of v_slot_Begins_ok (Nat.le_of_ble_eq_true rfl) ?_
    simp only [v_slot_Begins, ↓vD, vU, VE.ev, VE.evs, retvs, tupOf, grab, vfill, vbsl, eqCells, eqCell, veqs, veqs1, vmnx, AV.isCell, AV.isUndef, Nat.reduceEqDiff, Nat.reduceAdd, Nat.reduceSub, Nat.reduceLeDiff, Nat.reduceLT, reduceIte, reduceCtorEq, Nat.reduceBEq, k_app, k_slc1]
    (repeat' (first | (simp (config := { maxDischargeDepth := 16 }) only [*, vX, Int.reduceLE, Int.reduceLT, Int.reduceGE, Int.reduceGT, Int.reduceBEq, Int.reduceBNe, Int.reduceAdd, Int.reduceSub, Int.reduceMul, Int.reduceNeg, ↓vD, vU, VE.ev, VE.evs, retvs, tupOf, grab, vfill, vbsl, eqCells, eqCell, veqs, veqs1, vmnx, AV.isCell, AV.isUndef, Nat.reduceEqDiff, Nat.reduceAdd, Nat.reduceSub, Nat.reduceLeDiff, Nat.reduceLT, reduceIte, reduceCtorEq, Nat.reduceBEq]) | (simp (disch := first | assumption | omega | exact Seg.len _ | exact Vec.len _ | exact Leg.len _ | exact num_len _ | exact rowA_len _ | exact rowA_len | exact rowT_len _ | exact rowT_len | exact Seg.len | exact Vec.len | exact Leg.len | exact num_len | exact AV.slen _ _ | rfl) only [vP]) | (with_reducible (first | refine gsnd (fun _ => ?_) (fun _ => ?_) | refine csnd (fun _ => ?_) (fun _ => ?_) | refine gsd (fun _ => ?_) (fun _ => ?_) | refine csd (fun _ => ?_) (fun _ => ?_) | refine gsn (fun _ => ?_) (fun _ => ?_) | refine csn (fun _ => ?_) (fun _ => ?_))) | (with_reducible refine gs (fun _ => ?_) (fun _ => ?_)) | (with_reducible refine cs_ (fun _ => ?_) (fun _ => ?_)) | (with_reducible refine objQ_i (fun _ _ => ?_); (repeat (with_reducible refine imp_i (fun _ => ?_)))) | ((try with_reducible refine appK_a ?_); first | (with_reducible refine appD_F (by refine ⟨?_, ?_, ?_, ?_⟩ <;> (first | assumption | omega | exact St.has_add (by assumption) | (simp only [ins_has]; exact St.has_add (by assumption)) | (simp only [ins_has, fresh_ins, kill_ins, add_ins] at *; exact St.has_add (by assumption)) | (simp only [*, ins_has, has_full, St.has_add]; done) | (simp [-List.map_take, -List.map_drop, or_imp, forall_and, Seg.a, Vec.a, Leg.a, num, okEl, cells_agg, cells_int, cells_sl, cells_bool, AV.isCell]; done) | (simp; omega))) (fun _ _ => ?_)) | (with_reducible refine appD_V (by refine ⟨?_, ?_, ?_, ?_, ?_⟩ <;> (first | assumption | omega | exact St.has_add (by assumption) | (simp only [ins_has]; exact St.has_add (by assumption)) | (simp only [ins_has, fresh_ins, kill_ins, add_ins] at *; exact St.has_add (by assumption)) | (simp only [*, ins_has, has_full, St.has_add]; done) | (simp [-List.map_take, -List.map_drop, or_imp, forall_and, Seg.a, Vec.a, Leg.a, num, okEl, cells_agg, cells_int, cells_sl, cells_bool, AV.isCell]; done) | (simp; omega))) (fun _ _ => ?_))) | (with_reducible refine freshQ_i (fun _ _ => ?_)) | (with_reducible refine nilQ_i (fun _ _ => ?_)) | (with_reducible first | refine callH_use (hck) ?_ | refine pureQ_use (hck) ?_)))
    exact ⟨st, by (refine ⟨fun i o e => ?_, fun _ h => h⟩; revert e; simp only [St.ins, St.del, add_objs, kill_objs]; (repeat' split); all_goals (first | exact id | (intros; contradiction) | (intros; subst_vars; contradiction) | (intros; simp_all; done) | (intros; subst_vars; simp_all; done))), .full, by rw [HB.out]; rfl, rfl⟩
  have hO := check_ok.1 (by rw [hq]; exact hok)
  have hs := check_1 hO
  rw [hq] at hs
  obtain ⟨n, hn⟩ : ∃ n, sumD l = n := ⟨_, rfl⟩
  rw [hn] at hs
  have HBn : Hid (beginsF f w l = if w.c - w.m < n then ([], 0) else (legsF f w l 0 [⟨w.m, w.c - n + 1⟩], 0)) := ⟨by unfold beginsF; rw [hq, hs]; simp⟩
  subst hs
  simp only at hck
  have hn0 : 0 ≤ n := by
    rw [← hn]
    have := hO.pos
    clear hO hq hn HBn hck
    induction l with
    | nil => simp [sumD]
    | cons x r ih => have h3 := ih (by simp at hl; omega) (fun y hy => this y (by simp [hy])); have h4 := this x (by simp); simp only [sumD]; omega
  have hw := hO.win
  have hsp := hO.span
  have hfr := hO.from_
  have hto := hO.to_
  simp only [farF, Bool.or_eq_false_iff, decide_eq_false_iff_not] at hfr hto
  obtain ⟨hf1, hf2⟩ := hfr
  obtain ⟨ht1, ht2⟩ := hto
  have hl16 := hO.len.2
  have HO := Hid.mk hO
  clear hq hn hok hO
  by_cases hbig : w.c - w.m < n
  · have hb2 : IntKind.i64.wrap (w.c - w.m) = w.c - w.m := wrap_i64 _ (by omega) (by omega)
    refine VCalls.of v_slot_Begins_ok (Nat.le_of_ble_eq_true rfl) ?_
    simp only [v_slot_Begins, ↓vD, vU, VE.ev, VE.evs, retvs, tupOf, grab, vfill, vbsl, eqCells, eqCell, veqs, veqs1, vmnx, AV.isCell, AV.isUndef, Nat.reduceEqDiff, Nat.reduceAdd, Nat.reduceSub, Nat.reduceLeDiff, Nat.reduceLT, reduceIte, reduceCtorEq, Nat.reduceBEq, k_app, k_slc1]
    (repeat' (first | (simp (config := { maxDischargeDepth := 16 }) only [*, vX, Int.reduceLE, Int.reduceLT, Int.reduceGE, Int.reduceGT, Int.reduceBEq, Int.reduceBNe, Int.reduceAdd, Int.reduceSub, Int.reduceMul, Int.reduceNeg, ↓vD, vU, VE.ev, VE.evs, retvs, tupOf, grab, vfill, vbsl, eqCells, eqCell, veqs, veqs1, vmnx, AV.isCell, AV.isUndef, Nat.reduceEqDiff, Nat.reduceAdd, Nat.reduceSub, Nat.reduceLeDiff, Nat.reduceLT, reduceIte, reduceCtorEq, Nat.reduceBEq]) | (simp (disch := first | assumption | omega | exact Seg.len _ | exact Vec.len _ | exact Leg.len _ | exact num_len _ | exact rowA_len _ | exact rowA_len | exact rowT_len _ | exact rowT_len | exact Seg.len | exact Vec.len | exact Leg.len | exact num_len | exact AV.slen _ _ | rfl) only [vP]) | (with_reducible (first | refine gsnd (fun _ => ?_) (fun _ => ?_) | refine csnd (fun _ => ?_) (fun _ => ?_) | refine gsd (fun _ => ?_) (fun _ => ?_) | refine csd (fun _ => ?_) (fun _ => ?_) | refine gsn (fun _ => ?_) (fun _ => ?_) | refine csn (fun _ => ?_) (fun _ => ?_))) | (with_reducible refine gs (fun _ => ?_) (fun _ => ?_)) | (with_reducible refine cs_ (fun _ => ?_) (fun _ => ?_)) | (with_reducible refine objQ_i (fun _ _ => ?_); (repeat (with_reducible refine imp_i (fun _ => ?_)))) | ((try with_reducible refine appK_a ?_); first | (with_reducible refine appD_F (by refine ⟨?_, ?_, ?_, ?_⟩ <;> (first | assumption | omega | exact St.has_add (by assumption) | (simp only [ins_has]; exact St.has_add (by assumption)) | (simp only [ins_has, fresh_ins, kill_ins, add_ins] at *; exact St.has_add (by assumption)) | (simp only [*, ins_has, has_full, St.has_add]; done) | (simp [-List.map_take, -List.map_drop, or_imp, forall_and, Seg.a, Vec.a, Leg.a, num, okEl, cells_agg, cells_int, cells_sl, cells_bool, AV.isCell]; done) | (simp; omega))) (fun _ _ => ?_)) | (with_reducible refine appD_V (by refine ⟨?_, ?_, ?_, ?_, ?_⟩ <;> (first | assumption | omega | exact St.has_add (by assumption) | (simp only [ins_has]; exact St.has_add (by assumption)) | (simp only [ins_has, fresh_ins, kill_ins, add_ins] at *; exact St.has_add (by assumption)) | (simp only [*, ins_has, has_full, St.has_add]; done) | (simp [-List.map_take, -List.map_drop, or_imp, forall_and, Seg.a, Vec.a, Leg.a, num, okEl, cells_agg, cells_int, cells_sl, cells_bool, AV.isCell]; done) | (simp; omega))) (fun _ _ => ?_))) | (with_reducible refine freshQ_i (fun _ _ => ?_)) | (with_reducible refine nilQ_i (fun _ _ => ?_)) | (with_reducible first | refine callH_use (hck) ?_ | refine pureQ_use (hck) ?_)))
    exact ⟨st, by (refine ⟨fun i o e => ?_, fun _ h => h⟩; revert e; simp only [St.ins, St.del, add_objs, kill_objs]; (repeat' split); all_goals (first | exact id | (intros; contradiction) | (intros; subst_vars; contradiction) | (intros; simp_all; done) | (intros; subst_vars; simp_all; done))), .full, by rw [HBn.out, if_pos hbig]; rfl, rfl⟩
  have HB : Hid (beginsF f w l = (legsF f w l 0 [⟨w.m, w.c - n + 1⟩], 0)) := ⟨by rw [HBn.out, if_neg hbig]⟩
  clear HBn
  have hb2 : IntKind.i64.wrap (w.c - w.m) = w.c - w.m := wrap_i64 _ (by omega) (by omega)
  refine VCalls.of v_slot_Begins_ok (Nat.le_of_ble_eq_true rfl) ?_
  simp only [v_slot_Begins, ↓vD, vU, VE.ev, VE.evs, retvs, tupOf, grab, vfill, vbsl, eqCells, eqCell, veqs, veqs1, vmnx, AV.isCell, AV.isUndef, Nat.reduceEqDiff, Nat.reduceAdd, Nat.reduceSub, Nat.reduceLeDiff, Nat.reduceLT, reduceIte, reduceCtorEq, Nat.reduceBEq, k_app, k_slc1]
  (repeat' (first | (simp (config := { maxDischargeDepth := 16 }) only [*, vX, Int.reduceLE, Int.reduceLT, Int.reduceGE, Int.reduceGT, Int.reduceBEq, Int.reduceBNe, Int.reduceAdd, Int.reduceSub, Int.reduceMul, Int.reduceNeg, ↓vD, vU, VE.ev, VE.evs, retvs, tupOf, grab, vfill, vbsl, eqCells, eqCell, veqs, veqs1, vmnx, AV.isCell, AV.isUndef, Nat.reduceEqDiff, Nat.reduceAdd, Nat.reduceSub, Nat.reduceLeDiff, Nat.reduceLT, reduceIte, reduceCtorEq, Nat.reduceBEq]) | (simp (disch := first | assumption | omega | exact Seg.len _ | exact Vec.len _ | exact Leg.len _ | exact num_len _ | exact rowA_len _ | exact rowA_len | exact rowT_len _ | exact rowT_len | exact Seg.len | exact Vec.len | exact Leg.len | exact num_len | exact AV.slen _ _ | rfl) only [vP]) | (with_reducible (first | refine gsnd (fun _ => ?_) (fun _ => ?_) | refine csnd (fun _ => ?_) (fun _ => ?_) | refine gsd (fun _ => ?_) (fun _ => ?_) | refine csd (fun _ => ?_) (fun _ => ?_) | refine gsn (fun _ => ?_) (fun _ => ?_) | refine csn (fun _ => ?_) (fun _ => ?_))) | (with_reducible refine gs (fun _ => ?_) (fun _ => ?_)) | (with_reducible refine cs_ (fun _ => ?_) (fun _ => ?_)) | (with_reducible refine objQ_i (fun _ _ => ?_); (repeat (with_reducible refine imp_i (fun _ => ?_)))) | ((try with_reducible refine appK_a ?_); first | (with_reducible refine appD_F (by refine ⟨?_, ?_, ?_, ?_⟩ <;> (first | assumption | omega | exact St.has_add (by assumption) | (simp only [ins_has]; exact St.has_add (by assumption)) | (simp only [ins_has, fresh_ins, kill_ins, add_ins] at *; exact St.has_add (by assumption)) | (simp only [*, ins_has, has_full, St.has_add]; done) | (simp [-List.map_take, -List.map_drop, or_imp, forall_and, Seg.a, Vec.a, Leg.a, num, okEl, cells_agg, cells_int, cells_sl, cells_bool, AV.isCell]; done) | (simp; omega))) (fun _ _ => ?_)) | (with_reducible refine appD_V (by refine ⟨?_, ?_, ?_, ?_, ?_⟩ <;> (first | assumption | omega | exact St.has_add (by assumption) | (simp only [ins_has]; exact St.has_add (by assumption)) | (simp only [ins_has, fresh_ins, kill_ins, add_ins] at *; exact St.has_add (by assumption)) | (simp only [*, ins_has, has_full, St.has_add]; done) | (simp [-List.map_take, -List.map_drop, or_imp, forall_and, Seg.a, Vec.a, Leg.a, num, okEl, cells_agg, cells_int, cells_sl, cells_bool, AV.isCell]; done) | (simp; omega))) (fun _ _ => ?_))) | (with_reducible refine freshQ_i (fun _ _ => ?_)) | (with_reducible refine nilQ_i (fun _ _ => ?_)) | (with_reducible first | refine callH_use (hck) ?_ | refine pureQ_use (hck) ?_)))
  rename_i b4 h4 b10 h10 n1 n2 b11 h11 n3 n4 n5 n6
  refine loopf_of (len := l.length) (by simp only [asgL, dsts, List.cons_append, List.nil_append, List.append_nil]; rfl) (by simp only [noR, Bool.and_true, Bool.and_false]; rfl) (by omega) (fun k fr s => ∃ (ds : List Nat) (out : List Vec) (a : Int) (tk : Tok) (S : St), s = ((S.ins b4 (.cells [.int .i64 w.m, .int .i64 w.c])).ins b10 (.cells [.sl (out.map Vec.a) tk])).ins b11 (.cells [.int .i64 a]) ∧ fr.t 45 = .int .i64 k ∧ fr.d = ds ∧ DS st S ds ∧ (S.objs b4 = none ∧ S.objs b10 = none ∧ S.objs b11 = none) ∧
    Rows w.m (w.c + 1) out ∧ 0 ≤ a ∧ a ≤ 4096 * k ∧ Hid (legsF f w (l.drop k) a out = legsF f w l 0 [⟨w.m, w.c - n + 1⟩])) ?_ ?_ ?_
  · exact ⟨[], [⟨w.m, w.c - n + 1⟩], 0, .full, st, rfl, by simp [↓vD, vU, VE.ev, VE.evs, retvs, tupOf, grab, vfill, vbsl, eqCells, eqCell, veqs, veqs1, vmnx, AV.isCell, AV.isUndef, Nat.reduceEqDiff, Nat.reduceAdd, Nat.reduceSub, Nat.reduceLeDiff, Nat.reduceLT, reduceIte, reduceCtorEq, Nat.reduceBEq, k_app, k_slc1], by simp [↓vD, vU, VE.ev, VE.evs, retvs, tupOf, grab, vfill, vbsl, eqCells, eqCell, veqs, veqs1, vmnx, AV.isCell, AV.isUndef, Nat.reduceEqDiff, Nat.reduceAdd, Nat.reduceSub, Nat.reduceLeDiff, Nat.reduceLT, reduceIte, reduceCtorEq, Nat.reduceBEq, k_app, k_slc1, initFr], DS.nil (St.le.refl _), ⟨h4, h10, h11⟩, ⟨by simp, by simp only; omega, by simp only; omega, trivial⟩, by omega, by omega, ⟨rfl⟩⟩
  · rintro k fr s hk hwr hfr hd ⟨ds, out, a, tk, S, rfl, h45, hdd, hDS, ⟨h4', h10', h11'⟩, hR, ha0, ha1, HK⟩
    obtain ⟨x, hx⟩ : ∃ x, l[k] = x := ⟨_, rfl⟩
    have hxd := HO.out.pos x (by rw [← hx]; exact List.getElem_mem _)
    have hlow := low_c f w x.v t
    have HN : Hid (legsF f w (l.drop (k + 1)) (a + x.d) (cutsF x.d a (lowF f w x.v) out) = legsF f w l 0 [⟨w.m, w.c - n + 1⟩]) := ⟨by rw [← HK.out, List.drop_eq_getElem_cons hk, hx, legsF]⟩
    have hin := fun b (hb : b ∈ lowF f w x.v) => And.intro (lowF_ne HO.out.may HO.out.win x.v b hb) (lowF_in (f := f) (v := x.v) (w := w) (by omega) b hb)
    have HIn := Hid.mk hin
    clear HK hin
    unfold Vec.a at hlow
    (repeat' (first | (simp (config := { maxDischargeDepth := 16 }) only [*, Leg.a, Vec.a, vX, Int.reduceLE, Int.reduceLT, Int.reduceGE, Int.reduceGT, Int.reduceBEq, Int.reduceBNe, Int.reduceAdd, Int.reduceSub, Int.reduceMul, Int.reduceNeg, ↓vD, vU, VE.ev, VE.evs, retvs, tupOf, grab, vfill, vbsl, eqCells, eqCell, veqs, veqs1, vmnx, AV.isCell, AV.isUndef, Nat.reduceEqDiff, Nat.reduceAdd, Nat.reduceSub, Nat.reduceLeDiff, Nat.reduceLT, reduceIte, reduceCtorEq, Nat.reduceBEq]) | (simp (disch := first | assumption | omega | exact Seg.len _ | exact Vec.len _ | exact Leg.len _ | exact num_len _ | exact rowA_len _ | exact rowA_len | exact rowT_len _ | exact rowT_len | exact Seg.len | exact Vec.len | exact Leg.len | exact num_len | exact AV.slen _ _ | rfl) only [Leg.a, Vec.a, vP]) | (with_reducible (first | refine gsnd (fun _ => ?_) (fun _ => ?_) | refine csnd (fun _ => ?_) (fun _ => ?_) | refine gsd (fun _ => ?_) (fun _ => ?_) | refine csd (fun _ => ?_) (fun _ => ?_) | refine gsn (fun _ => ?_) (fun _ => ?_) | refine csn (fun _ => ?_) (fun _ => ?_))) | (with_reducible refine gs (fun _ => ?_) (fun _ => ?_)) | (with_reducible refine cs_ (fun _ => ?_) (fun _ => ?_)) | (with_reducible refine objQ_i (fun _ _ => ?_); (repeat (with_reducible refine imp_i (fun _ => ?_)))) | ((try with_reducible refine appK_a ?_); first | (with_reducible refine appD_F (by refine ⟨?_, ?_, ?_, ?_⟩ <;> (first | assumption | omega | exact St.has_add (by assumption) | (simp only [ins_has]; exact St.has_add (by assumption)) | (simp only [ins_has, fresh_ins, kill_ins, add_ins] at *; exact St.has_add (by assumption)) | (simp only [*, ins_has, has_full, St.has_add]; done) | (simp [-List.map_take, -List.map_drop, or_imp, forall_and, Seg.a, Vec.a, Leg.a, num, okEl, cells_agg, cells_int, cells_sl, cells_bool, AV.isCell]; done) | (simp; omega))) (fun _ _ => ?_)) | (with_reducible refine appD_V (by refine ⟨?_, ?_, ?_, ?_, ?_⟩ <;> (first | assumption | omega | exact St.has_add (by assumption) | (simp only [ins_has]; exact St.has_add (by assumption)) | (simp only [ins_has, fresh_ins, kill_ins, add_ins] at *; exact St.has_add (by assumption)) | (simp only [*, ins_has, has_full, St.has_add]; done) | (simp [-List.map_take, -List.map_drop, or_imp, forall_and, Seg.a, Vec.a, Leg.a, num, okEl, cells_agg, cells_int, cells_sl, cells_bool, AV.isCell]; done) | (simp; omega))) (fun _ _ => ?_))) | (with_reducible refine freshQ_i (fun _ _ => ?_)) | (with_reducible refine nilQ_i (fun _ _ => ?_)) | (with_reducible first | refine callH_use (hlow) ?_ | refine pureQ_use (hlow) ?_)))
    rename_i b13 h13 m1 m2 m3 m4 m5 m6
    have HL : Hid (lowF f w x.v = lowF f w x.v) := ⟨rfl⟩
    refine rng_iter (gf := 128) (fs := []) (by simp only [↓vD, vU, VE.ev, VE.evs, retvs, tupOf, grab, vfill, vbsl, eqCells, eqCell, veqs, veqs1, vmnx, AV.isCell, AV.isUndef, Nat.reduceEqDiff, Nat.reduceAdd, Nat.reduceSub, Nat.reduceLeDiff, Nat.reduceLT, reduceIte, reduceCtorEq, Nat.reduceBEq, k_app, k_slc1]; rfl) (low_it f (by omega) w x.v t) (by simp) (fun j T => ∃ out2 tk2, T = (((S.ins b4 (.cells [.int .i64 w.m, .int .i64 w.c])).ins b10 (.cells [.sl (out2.map Vec.a) tk2])).ins b11 (.cells [.int .i64 a])).ins b13 (.cells [.int .i64 x.d, .int .i64 x.v.m, .int .i64 x.v.c]) ∧ Rows w.m (w.c + 1) out2 ∧ Hid (cutsF x.d a ((lowF f w x.v).drop j) out2 = cutsF x.d a (lowF f w x.v) out)) (fun _ _ => False) ⟨out, tk, rfl, hR, ⟨by simp⟩⟩ ?_ ?_ (by intro _ _ _ _ _ _ _ h; exact h.elim)
    · rintro Y l0 D r hzy nlD nDl j hj T ⟨out2, tk2, rfl, hR2, HK2⟩ hTl hTD
      simp only [ins_objs, ite_some_none] at hTl hTD
      obtain ⟨q1, q2, q3, q4, q5, q6, q7, q8, hSl⟩ := hTl
      obtain ⟨r1, r2, r3, r4, r5, r6, r7, r8, hSD⟩ := hTD
      rw [List.length_map] at hj
      simp only [List.getElem_map]
      have HC := HK2.out
      rw [List.drop_eq_getElem_cons hj, cutsF] at HC
      have hb := HIn.out _ (List.getElem_mem hj)
      obtain ⟨bad, hbad⟩ : ∃ b, (lowF f w x.v)[j] = b := ⟨_, rfl⟩
      rw [hbad] at HC hb ⊢
      have HC2 := Hid.mk HC
      have hlen := hR2.len (by omega)
      have hwo := without_v out2 (by omega) tk2 (shiftW x.d a bad)
      have hR3 := hR2.without (x := shiftW x.d a bad) (by simp only [shiftW]; omega)
      simp only [shiftW] at hwo
      clear HC HK2 hbad
      (repeat' (first | (simp (config := { maxDischargeDepth := 16 }) only [*, argsFr1_t, argsFr1_d, Vec.a, Leg.a, rq_normal, vX, Int.reduceLE, Int.reduceLT, Int.reduceGE, Int.reduceGT, Int.reduceBEq, Int.reduceBNe, Int.reduceAdd, Int.reduceSub, Int.reduceMul, Int.reduceNeg, ↓vD, vU, VE.ev, VE.evs, retvs, tupOf, grab, vfill, vbsl, eqCells, eqCell, veqs, veqs1, vmnx, AV.isCell, AV.isUndef, Nat.reduceEqDiff, Nat.reduceAdd, Nat.reduceSub, Nat.reduceLeDiff, Nat.reduceLT, reduceIte, reduceCtorEq, Nat.reduceBEq]) | (simp (disch := first | assumption | omega | exact Seg.len _ | exact Vec.len _ | exact Leg.len _ | exact num_len _ | exact rowA_len _ | exact rowA_len | exact rowT_len _ | exact rowT_len | exact Seg.len | exact Vec.len | exact Leg.len | exact num_len | exact AV.slen _ _ | rfl) only [argsFr1_t, argsFr1_d, Vec.a, Leg.a, rq_normal, vP]) | (with_reducible (first | refine gsnd (fun _ => ?_) (fun _ => ?_) | refine csnd (fun _ => ?_) (fun _ => ?_) | refine gsd (fun _ => ?_) (fun _ => ?_) | refine csd (fun _ => ?_) (fun _ => ?_) | refine gsn (fun _ => ?_) (fun _ => ?_) | refine csn (fun _ => ?_) (fun _ => ?_))) | (with_reducible refine gs (fun _ => ?_) (fun _ => ?_)) | (with_reducible refine cs_ (fun _ => ?_) (fun _ => ?_)) | (with_reducible refine objQ_i (fun _ _ => ?_); (repeat (with_reducible refine imp_i (fun _ => ?_)))) | ((try with_reducible refine appK_a ?_); first | (with_reducible refine appD_F (by refine ⟨?_, ?_, ?_, ?_⟩ <;> (first | assumption | omega | exact St.has_add (by assumption) | (simp only [ins_has]; exact St.has_add (by assumption)) | (simp only [ins_has, fresh_ins, kill_ins, add_ins] at *; exact St.has_add (by assumption)) | (simp only [*, ins_has, has_full, St.has_add]; done) | (simp [-List.map_take, -List.map_drop, or_imp, forall_and, Seg.a, Vec.a, Leg.a, num, okEl, cells_agg, cells_int, cells_sl, cells_bool, AV.isCell]; done) | (simp; omega))) (fun _ _ => ?_)) | (with_reducible refine appD_V (by refine ⟨?_, ?_, ?_, ?_, ?_⟩ <;> (first | assumption | omega | exact St.has_add (by assumption) | (simp only [ins_has]; exact St.has_add (by assumption)) | (simp only [ins_has, fresh_ins, kill_ins, add_ins] at *; exact St.has_add (by assumption)) | (simp only [*, ins_has, has_full, St.has_add]; done) | (simp [-List.map_take, -List.map_drop, or_imp, forall_and, Seg.a, Vec.a, Leg.a, num, okEl, cells_agg, cells_int, cells_sl, cells_bool, AV.isCell]; done) | (simp; omega))) (fun _ _ => ?_))) | (with_reducible refine freshQ_i (fun _ _ => ?_)) | (with_reducible refine nilQ_i (fun _ _ => ?_)) | (with_reducible first | refine callH_use (hwo) ?_ | refine pureQ_use (hwo) ?_)))
      exact ⟨_, ⟨⟨_, .no, rfl, hR3, HC2⟩, (by simp only [ins_objs, kill_objs, add_objs, *, if_false, if_true, not_false_eq_true, ite_some_none, and_self, and_true, true_and])⟩, (by simp only [ins_objs, kill_objs, add_objs, *, if_false, if_true, not_false_eq_true, ite_some_none, and_self, and_true, true_and]), by (refine leX.start ?_ rfl; (repeat (refine leX.in_ (by simp only [*, ins_objs, if_true, if_false]; first | done | rfl) ?_)); (repeat (first | refine leX.new (by first | assumption | (rw [hob]; assumption)) ?_ | refine leX.old (by (simp only [List.mem_cons, true_or, or_true, eq_self]; done)) ?_)); exact leX.refl _ _)⟩
    · rintro D l0 o T nlD nDl ⟨out2, tk2, rfl, hR2, HK2⟩ hTl hTD
      simp only [ins_objs, ite_some_none] at hTl hTD
      obtain ⟨q1, q2, q3, q4, q5, q6, q7, q8, hSl⟩ := hTl
      obtain ⟨r1, r2, r3, r4, r5, r6, r7, r8, hSD⟩ := hTD
      rw [List.length_map, List.drop_length, cutsF] at HK2
      have HC := HK2.out
      subst HC
      (repeat' (first | (simp (config := { maxDischargeDepth := 16 }) only [*, Leg.a, Vec.a, vX, Int.reduceLE, Int.reduceLT, Int.reduceGE, Int.reduceGT, Int.reduceBEq, Int.reduceBNe, Int.reduceAdd, Int.reduceSub, Int.reduceMul, Int.reduceNeg, ↓vD, vU, VE.ev, VE.evs, retvs, tupOf, grab, vfill, vbsl, eqCells, eqCell, veqs, veqs1, vmnx, AV.isCell, AV.isUndef, Nat.reduceEqDiff, Nat.reduceAdd, Nat.reduceSub, Nat.reduceLeDiff, Nat.reduceLT, reduceIte, reduceCtorEq, Nat.reduceBEq]) | (simp (disch := first | assumption | omega | exact Seg.len _ | exact Vec.len _ | exact Leg.len _ | exact num_len _ | exact rowA_len _ | exact rowA_len | exact rowT_len _ | exact rowT_len | exact Seg.len | exact Vec.len | exact Leg.len | exact num_len | exact AV.slen _ _ | rfl) only [Leg.a, Vec.a, vP]) | (with_reducible (first | refine gsnd (fun _ => ?_) (fun _ => ?_) | refine csnd (fun _ => ?_) (fun _ => ?_) | refine gsd (fun _ => ?_) (fun _ => ?_) | refine csd (fun _ => ?_) (fun _ => ?_) | refine gsn (fun _ => ?_) (fun _ => ?_) | refine csn (fun _ => ?_) (fun _ => ?_))) | (with_reducible refine gs (fun _ => ?_) (fun _ => ?_)) | (with_reducible refine cs_ (fun _ => ?_) (fun _ => ?_)) | (with_reducible refine objQ_i (fun _ _ => ?_); (repeat (with_reducible refine imp_i (fun _ => ?_)))) | ((try with_reducible refine appK_a ?_); first | (with_reducible refine appD_F (by refine ⟨?_, ?_, ?_, ?_⟩ <;> (first | assumption | omega | exact St.has_add (by assumption) | (simp only [ins_has]; exact St.has_add (by assumption)) | (simp only [ins_has, fresh_ins, kill_ins, add_ins] at *; exact St.has_add (by assumption)) | (simp only [*, ins_has, has_full, St.has_add]; done) | (simp [-List.map_take, -List.map_drop, or_imp, forall_and, Seg.a, Vec.a, Leg.a, num, okEl, cells_agg, cells_int, cells_sl, cells_bool, AV.isCell]; done) | (simp; omega))) (fun _ _ => ?_)) | (with_reducible refine appD_V (by refine ⟨?_, ?_, ?_, ?_, ?_⟩ <;> (first | assumption | omega | exact St.has_add (by assumption) | (simp only [ins_has]; exact St.has_add (by assumption)) | (simp only [ins_has, fresh_ins, kill_ins, add_ins] at *; exact St.has_add (by assumption)) | (simp only [*, ins_has, has_full, St.has_add]; done) | (simp [-List.map_take, -List.map_drop, or_imp, forall_and, Seg.a, Vec.a, Leg.a, num, okEl, cells_agg, cells_int, cells_sl, cells_bool, AV.isCell]; done) | (simp; omega))) (fun _ _ => ?_))) | (with_reducible refine freshQ_i (fun _ _ => ?_)) | (with_reducible refine nilQ_i (fun _ _ => ?_))))
      exact ⟨_, by (refine leX.start ?_ rfl; (repeat (refine leX.in_ (by simp only [*, ins_objs, if_true, if_false]; first | done | rfl) ?_)); (repeat (first | refine leX.new (by first | assumption | (rw [hob]; assumption)) ?_ | refine leX.old (by (simp only [List.mem_cons, true_or, or_true, eq_self]; done)) ?_)); exact leX.refl _ _), D :: ds, _, a + x.d, tk2, S.ins D dobj, rfl, rfl, hDS.cons hSD, ⟨(by simp only [ins_objs, kill_objs, add_objs, *, if_false, if_true, not_false_eq_true, ite_some_none, and_self, and_true, true_and]), (by simp only [ins_objs, kill_objs, add_objs, *, if_false, if_true, not_false_eq_true, ite_some_none, and_self, and_true, true_and]), (by simp only [ins_objs, kill_objs, add_objs, *, if_false, if_true, not_false_eq_true, ite_some_none, and_self, and_true, true_and])⟩, hR2, by omega, by omega, HN⟩
  · rintro fr s hfr hd ⟨ds, out, a, tk, S, rfl, h45, hdd, hDS, ⟨h4', h10', h11'⟩, hR, ha0, ha1, HK⟩
    rw [List.drop_length, legsF] at HK
    have hle : S.le (((S.ins b4 (.cells [.int .i64 w.m, .int .i64 w.c])).ins b10 (.cells [.sl (out.map Vec.a) tk])).ins b11 (.cells [.int .i64 a])) := by (refine ⟨fun i o e => ?_, fun _ h => h⟩; revert e; simp only [St.ins, St.del, add_objs, kill_objs]; (repeat' split); all_goals (first | exact id | (intros; contradiction) | (intros; subst_vars; contradiction) | (intros; simp_all; done) | (intros; subst_vars; simp_all; done)))
    (repeat' (first | (simp (config := { maxDischargeDepth := 16 }) only [*, vX, Int.reduceLE, Int.reduceLT, Int.reduceGE, Int.reduceGT, Int.reduceBEq, Int.reduceBNe, Int.reduceAdd, Int.reduceSub, Int.reduceMul, Int.reduceNeg, ↓vD, vU, VE.ev, VE.evs, retvs, tupOf, grab, vfill, vbsl, eqCells, eqCell, veqs, veqs1, vmnx, AV.isCell, AV.isUndef, Nat.reduceEqDiff, Nat.reduceAdd, Nat.reduceSub, Nat.reduceLeDiff, Nat.reduceLT, reduceIte, reduceCtorEq, Nat.reduceBEq]) | (simp (disch := first | assumption | omega | exact Seg.len _ | exact Vec.len _ | exact Leg.len _ | exact num_len _ | exact rowA_len _ | exact rowA_len | exact rowT_len _ | exact rowT_len | exact Seg.len | exact Vec.len | exact Leg.len | exact num_len | exact AV.slen _ _ | rfl) only [vP]) | (with_reducible (first | refine gsnd (fun _ => ?_) (fun _ => ?_) | refine csnd (fun _ => ?_) (fun _ => ?_) | refine gsd (fun _ => ?_) (fun _ => ?_) | refine csd (fun _ => ?_) (fun _ => ?_) | refine gsn (fun _ => ?_) (fun _ => ?_) | refine csn (fun _ => ?_) (fun _ => ?_))) | (with_reducible refine gs (fun _ => ?_) (fun _ => ?_)) | (with_reducible refine cs_ (fun _ => ?_) (fun _ => ?_)) | (with_reducible refine objQ_i (fun _ _ => ?_); (repeat (with_reducible refine imp_i (fun _ => ?_)))) | ((try with_reducible refine appK_a ?_); first | (with_reducible refine appD_F (by refine ⟨?_, ?_, ?_, ?_⟩ <;> (first | assumption | omega | exact St.has_add (by assumption) | (simp only [ins_has]; exact St.has_add (by assumption)) | (simp only [ins_has, fresh_ins, kill_ins, add_ins] at *; exact St.has_add (by assumption)) | (simp only [*, ins_has, has_full, St.has_add]; done) | (simp [-List.map_take, -List.map_drop, or_imp, forall_and, Seg.a, Vec.a, Leg.a, num, okEl, cells_agg, cells_int, cells_sl, cells_bool, AV.isCell]; done) | (simp; omega))) (fun _ _ => ?_)) | (with_reducible refine appD_V (by refine ⟨?_, ?_, ?_, ?_, ?_⟩ <;> (first | assumption | omega | exact St.has_add (by assumption) | (simp only [ins_has]; exact St.has_add (by assumption)) | (simp only [ins_has, fresh_ins, kill_ins, add_ins] at *; exact St.has_add (by assumption)) | (simp only [*, ins_has, has_full, St.has_add]; done) | (simp [-List.map_take, -List.map_drop, or_imp, forall_and, Seg.a, Vec.a, Leg.a, num, okEl, cells_agg, cells_int, cells_sl, cells_bool, AV.isCell]; done) | (simp; omega))) (fun _ _ => ?_))) | (with_reducible refine freshQ_i (fun _ _ => ?_)) | (with_reducible refine nilQ_i (fun _ _ => ?_))))
    · rename_i hc
      have ho : out = [] := by
        have : out.length = 0 := by first | omega | simpa using hc
        exact List.length_eq_zero_iff.1 this
      refine ⟨_, st, rfl, hDS.fin hle, hDS.2.1, hDS.1.trans hle, .full, ?_, rfl⟩
      rw [HB.out, ← HK.out, ho]; rfl
    · refine ⟨_, st, rfl, hDS.fin hle, hDS.2.1, hDS.1.trans hle, tk, ?_, rfl⟩
      rw [HB.out, ← HK.out]; rfl
end Go.Proofs.Ytddbnncimggogaa.V
end
section
set_option linter.unusedSimpArgs false
set_option linter.unusedVariables false
/- The compiled functions of the package liveryref16 (printed by Print.lean of this work). -/
namespace Go.Proofs.Ytddbnncimggogaa.V
open Go Go.Proofs
def v_liveryref16_Same : VFn := ⟨.seq (.reg [⟨some 4, .mov (.c (.bool false)), none, [], []⟩])
(.seq (.seq (.reg [⟨some 6, .mov (.t 0), none, [], []⟩,
  ⟨some 7, .len (.t 6), none, [0], []⟩,
  ⟨some 8, .mov (.t 1), none, [], []⟩,
  ⟨some 9, .len (.t 8), none, [2], []⟩,
  ⟨some 10, .bin .neq (.t 7) (.t 9), none, [1, 3], []⟩])
(.cond (.t 10)
  (.seq (.reg [⟨some 4, .mov (.c (.bool false)), none, [], []⟩])
  (.ret))
  (.skip)))
(.seq (.seq (.reg [⟨some 5, .mov (.c (.int .i64 0)), none, [], []⟩])
(.block 0
  (.loop
    (.seq (.seq (.reg [⟨some 11, .mov (.t 5), none, [], []⟩,
      ⟨some 12, .mov (.t 0), none, [], []⟩,
      ⟨some 13, .len (.t 12), none, [1], []⟩,
      ⟨some 14, .bin .lss (.t 11) (.t 13), none, [0, 2], []⟩])
    (.cond (.t 14)
      (.skip)
      (.exit 0)))
    (.seq (.block 1
      (.seq (.dreg [⟨some 17, .mov (.t 0), none, [], []⟩,
        ⟨some 18, .mov (.t 5), none, [], []⟩,
        ⟨some 19, .iad 2 (.t 17) (.t 18), none, [0, 1], []⟩,
        ⟨some 20, .load 2 true (.t 19), none, [2], []⟩,
        ⟨some 21, .mov (.t 1), none, [], []⟩,
        ⟨some 22, .mov (.t 5), none, [], []⟩,
        ⟨some 23, .iad 2 (.t 21) (.t 22), none, [4, 5], []⟩,
        ⟨some 24, .load 2 true (.t 23), none, [6], []⟩,
        ⟨some 25, .eqs true [0, 0] (.t 20) (.t 24), none, [3, 7], []⟩])
      (.cond (.t 25)
        (.seq (.reg [⟨some 4, .mov (.c (.bool false)), none, [], []⟩])
        (.ret))
        (.skip))))
    (.reg [⟨some 15, .mov (.t 5), none, [], []⟩,
      ⟨some 16, .bin .add (.t 15) (.c (.int .i64 1)), none, [0], []⟩,
      ⟨some 5, .mov (.t 16), none, [1, 0, 1], []⟩]))))))
(.seq (.reg [⟨some 4, .mov (.c (.bool true)), none, [], []⟩])
(.ret)))),
[.t 4], 26⟩
theorem v_liveryref16_Same_ok : compF Try.prog 43 = some v_liveryref16_Same := by kernel_rfl
end Go.Proofs.Ytddbnncimggogaa.V
end
section
set_option linter.unusedSimpArgs false
set_option linter.unusedVariables false
/- The compiled functions of the package liverylaw16 (printed by Print.lean of this work). -/
namespace Go.Proofs.Ytddbnncimggogaa.V
open Go Go.Proofs
def v_liverylaw16_SlotFits : VFn := ⟨.seq (.reg [⟨some 4, .box (.t 1), none, [], []⟩,
  ⟨some 6, .mov (.c (.bool false)), none, [], []⟩])
(.seq (.seq (.reg [⟨some 17, .mov (.t 0), none, [], []⟩,
  ⟨some 18, .load 2 true (.t 4), none, [], []⟩,
  ⟨some 19, .mov (.t 2), none, [], []⟩,
  ⟨some 20, .call 40 [(.t 17), (.t 18), (.t 19)], none, [0, 1, 2], []⟩])
(.cond (.t 20)
  (.seq (.reg [⟨some 21, .call 41 [], none, [], []⟩,
    ⟨some 6, .mov (.t 21), none, [0, 0, 0], []⟩])
  (.ret))
  (.skip)))
(.seq (.reg [⟨some 23, .mov (.t 0), none, [], []⟩,
  ⟨some 24, .load 2 true (.t 4), none, [], []⟩,
  ⟨some 25, .mov (.t 2), none, [], []⟩,
  ⟨some 26, .call 42 [(.t 23), (.t 24), (.t 25)], none, [0, 1, 2], []⟩,
  ⟨some 22, .mov (.t 26), none, [3], []⟩,
  ⟨some 27, .ext (.t 22) 0, none, [4], []⟩,
  ⟨some 28, .ext (.t 22) 1, none, [4], []⟩,
  ⟨some 7, .mov (.t 27), none, [5, 3, 0, 1, 2, 3, 4, 5], []⟩,
  ⟨some 8, .mov (.t 28), none, [6, 7, 0, 1, 2, 3, 4, 5, 6, 7], []⟩])
(.seq (.seq (.reg [⟨some 29, .mov (.t 8), none, [], []⟩,
  ⟨some 30, .bin .neq (.t 29) (.c (.int .i64 0)), none, [0], []⟩])
(.cond (.t 30)
  (.seq (.reg [⟨some 31, .mov (.t 7), none, [], []⟩,
    ⟨some 32, .len (.t 31), none, [0], []⟩,
    ⟨some 33, .bin .eql (.t 32) (.c (.int .i64 0)), none, [1], []⟩,
    ⟨some 34, .mov (.t 33), none, [2], []⟩,
    ⟨some 35, .call 41 [], some (34, true), [3, 3], []⟩,
    ⟨some 36, .pick (.t 34) (.t 35) (.c (.bool false)), none, [3, 4], []⟩,
    ⟨some 6, .mov (.t 36), none, [5, 4, 0, 1, 2, 3, 4, 5], []⟩])
  (.ret))
  (.skip)))
(.seq (.seq (.reg [⟨some 9, .mov (.c (.int .i64 0)), none, [], []⟩])
(.block 0
  (.loop
    (.seq (.seq (.reg [⟨some 37, .mov (.t 9), none, [], []⟩,
      ⟨some 38, .mov (.t 7), none, [], []⟩,
      ⟨some 39, .len (.t 38), none, [1], []⟩,
      ⟨some 40, .bin .lss (.t 37) (.t 39), none, [0, 2], []⟩])
    (.cond (.t 40)
      (.skip)
      (.exit 0)))
    (.seq (.block 1
      (.seq (.dreg [⟨some 43, .mov (.t 7), none, [], []⟩,
        ⟨some 44, .mov (.t 9), none, [], []⟩,
        ⟨some 45, .iad 2 (.t 43) (.t 44), none, [0, 1], []⟩,
        ⟨some 46, .fad 0 (.t 45), none, [2], []⟩,
        ⟨some 47, .load 1 false (.t 46), none, [3], []⟩,
        ⟨some 48, .mov (.t 7), none, [], []⟩,
        ⟨some 49, .mov (.t 9), none, [], []⟩,
        ⟨some 50, .iad 2 (.t 48) (.t 49), none, [5, 6], []⟩,
        ⟨some 51, .fad 1 (.t 50), none, [7], []⟩,
        ⟨some 52, .load 1 false (.t 51), none, [8], []⟩,
        ⟨some 53, .bin .geq (.t 47) (.t 52), none, [4, 9], []⟩,
        ⟨some 54, .mov (.t 53), none, [10], []⟩,
        ⟨some 55, .mov (.t 7), some (54, false), [11], []⟩,
        ⟨some 56, .mov (.t 9), some (54, false), [11], []⟩,
        ⟨some 57, .iad 2 (.t 55) (.t 56), some (54, false), [12, 13, 11], []⟩,
        ⟨some 58, .fad 0 (.t 57), some (54, false), [14, 11], []⟩,
        ⟨some 59, .load 1 false (.t 58), some (54, false), [15, 11], []⟩,
        ⟨some 60, .fad 0 (.t 4), some (54, false), [11], []⟩,
        ⟨some 61, .load 1 false (.t 60), some (54, false), [17, 11], []⟩,
        ⟨some 62, .bin .lss (.t 59) (.t 61), some (54, false), [16, 18, 11], []⟩,
        ⟨some 63, .pick (.t 54) (.c (.bool true)) (.t 62), none, [11, 19], []⟩,
        ⟨some 64, .mov (.t 63), none, [20, 11], []⟩,
        ⟨some 65, .mov (.t 7), some (64, false), [21], []⟩,
        ⟨some 66, .mov (.t 9), some (64, false), [21], []⟩,
        ⟨some 67, .iad 2 (.t 65) (.t 66), some (64, false), [22, 23, 21], []⟩,
        ⟨some 68, .fad 1 (.t 67), some (64, false), [24, 21], []⟩,
        ⟨some 69, .load 1 false (.t 68), some (64, false), [25, 21], []⟩,
        ⟨some 70, .fad 1 (.t 4), some (64, false), [21], []⟩,
        ⟨some 71, .load 1 false (.t 70), some (64, false), [27, 21], []⟩,
        ⟨some 72, .bin .gtr (.t 69) (.t 71), some (64, false), [26, 28, 21], []⟩,
        ⟨some 73, .pick (.t 64) (.c (.bool true)) (.t 72), none, [21, 29], []⟩,
        ⟨some 74, .mov (.t 73), none, [30, 21], []⟩,
        ⟨some 75, .mov (.t 9), some (74, false), [31], []⟩,
        ⟨some 76, .bin .gtr (.t 75) (.c (.int .i64 0)), some (74, false), [32, 31], []⟩,
        ⟨some 77, .mov (.t 76), some (74, false), [33, 31, 31], []⟩,
        ⟨some 78, .mov (.t 7), some (77, true), [34], []⟩,
        ⟨some 79, .mov (.t 9), some (77, true), [34], []⟩,
        ⟨some 80, .bin .sub (.t 79) (.c (.int .i64 1)), some (77, true), [36, 34], []⟩,
        ⟨some 81, .iad 2 (.t 78) (.t 80), some (77, true), [35, 37, 34], []⟩,
        ⟨some 82, .fad 1 (.t 81), some (77, true), [38, 34], []⟩,
        ⟨some 83, .load 1 false (.t 82), some (77, true), [39, 34], []⟩,
        ⟨some 84, .mov (.t 7), some (77, true), [34], []⟩,
        ⟨some 85, .mov (.t 9), some (77, true), [34], []⟩,
        ⟨some 86, .iad 2 (.t 84) (.t 85), some (77, true), [41, 42, 34], []⟩,
        ⟨some 87, .fad 0 (.t 86), some (77, true), [43, 34], []⟩,
        ⟨some 88, .load 1 false (.t 87), some (77, true), [44, 34], []⟩,
        ⟨some 89, .bin .geq (.t 83) (.t 88), some (77, true), [40, 45, 34], []⟩,
        ⟨some 90, .pick (.t 77) (.t 89) (.c (.bool false)), some (74, false), [34, 46, 31], []⟩,
        ⟨some 91, .pick (.t 74) (.c (.bool true)) (.t 90), none, [31, 47], []⟩])
      (.cond (.t 91)
        (.seq (.reg [⟨some 6, .mov (.c (.bool false)), none, [], []⟩])
        (.ret))
        (.skip))))
    (.reg [⟨some 41, .mov (.t 9), none, [], []⟩,
      ⟨some 42, .bin .add (.t 41) (.c (.int .i64 1)), none, [0], []⟩,
      ⟨some 9, .mov (.t 42), none, [1, 0, 1], []⟩]))))))
(.seq (.reg [⟨some 10, .mov (.c (.int .i64 0)), none, [], []⟩])
(.seq (.seq (.reg [⟨some 92, .fad 0 (.t 4), none, [], []⟩,
  ⟨some 93, .load 1 false (.t 92), none, [0], []⟩,
  ⟨some 11, .mov (.t 93), none, [1, 0, 1], []⟩])
(.block 2
  (.loop
    (.seq (.seq (.reg [⟨some 94, .mov (.t 11), none, [], []⟩,
      ⟨some 95, .fad 1 (.t 4), none, [], []⟩,
      ⟨some 96, .load 1 false (.t 95), none, [1], []⟩,
      ⟨some 97, .bin .lss (.t 94) (.t 96), none, [0, 2], []⟩])
    (.cond (.t 97)
      (.skip)
      (.exit 2)))
    (.seq (.block 3
      (.seq (.block 4
        (.loop
          (.seq (.seq (.reg [⟨some 100, .mov (.t 10), none, [], []⟩,
            ⟨some 101, .mov (.t 7), none, [], []⟩,
            ⟨some 102, .len (.t 101), none, [1], []⟩,
            ⟨some 103, .bin .lss (.t 100) (.t 102), none, [0, 2], []⟩,
            ⟨some 104, .mov (.t 103), none, [3], []⟩,
            ⟨some 105, .mov (.t 7), some (104, true), [4], []⟩,
            ⟨some 106, .mov (.t 10), some (104, true), [4], []⟩,
            ⟨some 107, .iad 2 (.t 105) (.t 106), some (104, true), [5, 6, 4], []⟩,
            ⟨some 108, .fad 1 (.t 107), some (104, true), [7, 4], []⟩,
            ⟨some 109, .load 1 false (.t 108), some (104, true), [8, 4], []⟩,
            ⟨some 110, .mov (.t 11), some (104, true), [4], []⟩,
            ⟨some 111, .bin .leq (.t 109) (.t 110), some (104, true), [9, 10, 4], []⟩,
            ⟨some 112, .pick (.t 104) (.t 111) (.c (.bool false)), none, [4, 11], []⟩])
          (.cond (.t 112)
            (.skip)
            (.exit 4)))
          (.block 5
            (.reg [⟨some 113, .mov (.t 10), none, [], []⟩,
              ⟨some 114, .bin .add (.t 113) (.c (.int .i64 1)), none, [0], []⟩,
              ⟨some 10, .mov (.t 114), none, [1, 0, 1], []⟩])))))
      (.seq (.reg [⟨some 115, .mov (.t 11), none, [], []⟩,
        ⟨some 12, .mov (.c (.bool true)), none, [], []⟩,
        ⟨some 13, .mov (.t 115), none, [0, 1, 0, 1], []⟩])
      (.seq (.seq (.reg [⟨some 14, .mov (.c (.int .i64 0)), none, [], []⟩])
      (.block 6
        (.loop
          (.seq (.seq (.reg [⟨some 116, .mov (.t 14), none, [], []⟩,
            ⟨some 117, .mov (.t 2), none, [], []⟩,
            ⟨some 118, .len (.t 117), none, [1], []⟩,
            ⟨some 119, .bin .lss (.t 116) (.t 118), none, [0, 2], []⟩])
          (.cond (.t 119)
            (.skip)
            (.exit 6)))
          (.seq (.block 7
            (.seq (.dreg [⟨some 123, .mov (.t 0), none, [], []⟩,
              ⟨some 124, .mov (.t 13), none, [], []⟩,
              ⟨some 125, .mov (.t 2), none, [], []⟩,
              ⟨some 126, .mov (.t 14), none, [], []⟩,
              ⟨some 127, .iad 3 (.t 125) (.t 126), none, [2, 3], []⟩,
              ⟨some 128, .fad 0 (.t 127), none, [4], []⟩,
              ⟨some 129, .load 1 false (.t 128), none, [5], []⟩,
              ⟨some 130, .mov (.t 2), none, [], []⟩,
              ⟨some 131, .mov (.t 14), none, [], []⟩,
              ⟨some 132, .iad 3 (.t 130) (.t 131), none, [7, 8], []⟩,
              ⟨some 133, .fad 1 (.t 132), none, [9], []⟩,
              ⟨some 134, .load 2 true (.t 133), none, [10], []⟩,
              ⟨some 135, .call 45 [(.t 123), (.t 124), (.t 129), (.t 134)], none, [0, 1, 6, 11], [(0, 0)]⟩,
              ⟨some 122, .mov (.t 135), none, [12], []⟩,
              ⟨some 136, .ext (.t 122) 0, none, [13], []⟩,
              ⟨some 137, .ext (.t 122) 1, none, [13], []⟩,
              ⟨some 15, .mov (.t 136), none, [14, 12, 0, 1, 2, 3, 4, 5, 6, 7, 8, 9, 10, 11, 12, 13, 14], []⟩,
              ⟨some 16, .mov (.t 137), none, [15, 16, 0, 1, 2, 3, 4, 5, 6, 7, 8, 9, 10, 11, 12, 13, 14, 15, 16], []⟩])
            (.seq (.reg [⟨some 138, .mov (.t 13), none, [], []⟩,
              ⟨some 139, .mov (.t 2), none, [], []⟩,
              ⟨some 140, .mov (.t 14), none, [], []⟩,
              ⟨some 141, .iad 3 (.t 139) (.t 140), none, [1, 2], []⟩,
              ⟨some 142, .fad 0 (.t 141), none, [3], []⟩,
              ⟨some 143, .load 1 false (.t 142), none, [4], []⟩,
              ⟨some 144, .bin .add (.t 138) (.t 143), none, [0, 5], []⟩,
              ⟨some 13, .mov (.t 144), none, [6, 0, 1, 2, 3, 4, 5, 6], []⟩])
            (.reg [⟨some 145, .mov (.t 12), none, [], []⟩,
              ⟨some 146, .mov (.t 145), none, [0], []⟩,
              ⟨some 147, .mov (.t 16), some (146, true), [1], []⟩,
              ⟨some 148, .bin .eql (.t 147) (.c (.int .i64 0)), some (146, true), [2, 1], []⟩,
              ⟨some 149, .pick (.t 146) (.t 148) (.c (.bool false)), none, [1, 3], []⟩,
              ⟨some 150, .mov (.t 149), none, [4, 1], []⟩,
              ⟨some 151, .mov (.t 15), some (150, true), [5], []⟩,
              ⟨some 152, .pick (.t 150) (.t 151) (.c (.bool false)), none, [5, 6], []⟩,
              ⟨some 153, .mov (.t 152), none, [7, 5], []⟩,
              ⟨some 154, .mov (.t 13), some (153, true), [8], []⟩,
              ⟨some 155, .fad 1 (.t 4), some (153, true), [8], []⟩,
              ⟨some 156, .load 1 false (.t 155), some (153, true), [10, 8], []⟩,
              ⟨some 157, .bin .leq (.t 154) (.t 156), some (153, true), [9, 11, 8], []⟩,
              ⟨some 158, .pick (.t 153) (.t 157) (.c (.bool false)), none, [8, 12], []⟩,
              ⟨some 12, .mov (.t 158), none, [13, 8, 0, 1, 2, 3, 4, 5, 6, 7, 8, 9, 10, 11, 12, 13], []⟩]))))
          (.reg [⟨some 120, .mov (.t 14), none, [], []⟩,
            ⟨some 121, .bin .add (.t 120) (.c (.int .i64 1)), none, [0], []⟩,
            ⟨some 14, .mov (.t 121), none, [1, 0, 1], []⟩]))))))
      (.seq (.reg [⟨some 159, .mov (.t 12), none, [], []⟩,
        ⟨some 160, .mov (.t 10), none, [], []⟩,
        ⟨some 161, .mov (.t 7), none, [], []⟩,
        ⟨some 162, .len (.t 161), none, [2], []⟩,
        ⟨some 163, .bin .lss (.t 160) (.t 162), none, [1, 3], []⟩,
        ⟨some 164, .mov (.t 163), none, [4], []⟩,
        ⟨some 165, .mov (.t 7), some (164, true), [5], []⟩,
        ⟨some 166, .mov (.t 10), some (164, true), [5], []⟩,
        ⟨some 167, .iad 2 (.t 165) (.t 166), some (164, true), [6, 7, 5], []⟩,
        ⟨some 168, .fad 0 (.t 167), some (164, true), [8, 5], []⟩,
        ⟨some 169, .load 1 false (.t 168), some (164, true), [9, 5], []⟩,
        ⟨some 170, .mov (.t 11), some (164, true), [5], []⟩,
        ⟨some 171, .bin .leq (.t 169) (.t 170), some (164, true), [10, 11, 5], []⟩,
        ⟨some 172, .pick (.t 164) (.t 171) (.c (.bool false)), none, [5, 12], []⟩,
        ⟨some 173, .eqs1 true (.t 159) (.t 172), none, [0, 13], []⟩])
      (.cond (.t 173)
        (.seq (.reg [⟨some 6, .mov (.c (.bool false)), none, [], []⟩])
        (.ret))
        (.skip)))))))
    (.reg [⟨some 98, .mov (.t 11), none, [], []⟩,
      ⟨some 99, .bin .add (.t 98) (.c (.int .i64 1)), none, [0], []⟩,
      ⟨some 11, .mov (.t 99), none, [1, 0, 1], []⟩]))))))
(.seq (.reg [⟨some 174, .call 41 [], none, [], []⟩,
  ⟨some 6, .mov (.t 174), none, [0, 0, 0], []⟩])
(.ret)))))))),
[.t 6], 175⟩
theorem v_liverylaw16_SlotFits_ok : compF Try.prog 12 = some v_liverylaw16_SlotFits := by kernel_rfl
def v_liverylaw16_great : VFn := ⟨.seq (.reg [⟨some 4, .box (.t 1), none, [], []⟩,
  ⟨some 6, .mov (.c (.bool false)), none, [], []⟩])
(.seq (.reg [⟨some 7, .mov (.t 0), none, [], []⟩,
  ⟨some 8, .len (.t 7), none, [0], []⟩,
  ⟨some 9, .bin .gtr (.t 8) (.c (.int .i64 60)), none, [1], []⟩,
  ⟨some 10, .mov (.t 9), none, [2], []⟩,
  ⟨some 11, .mov (.t 2), some (10, false), [3], []⟩,
  ⟨some 12, .len (.t 11), some (10, false), [4, 3], []⟩,
  ⟨some 13, .bin .gtr (.t 12) (.c (.int .i64 30)), some (10, false), [5, 3], []⟩,
  ⟨some 14, .pick (.t 10) (.c (.bool true)) (.t 13), none, [3, 6], []⟩,
  ⟨some 15, .mov (.t 14), none, [7, 3], []⟩,
  ⟨some 16, .fad 0 (.t 4), some (15, false), [8], []⟩,
  ⟨some 17, .load 1 false (.t 16), some (15, false), [9, 8], []⟩,
  ⟨some 18, .fad 1 (.t 4), some (15, false), [8], []⟩,
  ⟨some 19, .load 1 false (.t 18), some (15, false), [11, 8], []⟩,
  ⟨some 20, .bin .lss (.t 17) (.t 19), some (15, false), [10, 12, 8], []⟩,
  ⟨some 21, .mov (.t 20), some (15, false), [13, 8, 8], []⟩,
  ⟨some 22, .fad 1 (.t 4), some (21, true), [14], []⟩,
  ⟨some 23, .load 1 false (.t 22), some (21, true), [15, 14], []⟩,
  ⟨some 24, .fad 0 (.t 4), some (21, true), [14], []⟩,
  ⟨some 25, .load 1 false (.t 24), some (21, true), [17, 14], []⟩,
  ⟨some 26, .bin .sub (.t 23) (.t 25), some (21, true), [16, 18, 14], []⟩,
  ⟨some 27, .bin .gtr (.t 26) (.c (.int .i64 150)), some (21, true), [19, 14], []⟩,
  ⟨some 28, .pick (.t 21) (.t 27) (.c (.bool false)), some (15, false), [14, 20, 8], []⟩,
  ⟨some 29, .mov (.t 28), some (15, false), [21, 14, 8], []⟩,
  ⟨some 30, .fad 1 (.t 4), some (29, true), [22], []⟩,
  ⟨some 31, .load 1 false (.t 30), some (29, true), [23, 22], []⟩,
  ⟨some 32, .fad 0 (.t 4), some (29, true), [22], []⟩,
  ⟨some 33, .load 1 false (.t 32), some (29, true), [25, 22], []⟩,
  ⟨some 34, .bin .sub (.t 31) (.t 33), some (29, true), [24, 26, 22], []⟩,
  ⟨some 35, .bin .leq (.t 34) (.c (.int .i64 4096)), some (29, true), [27, 22], []⟩,
  ⟨some 36, .pick (.t 29) (.t 35) (.c (.bool false)), some (15, false), [22, 28, 8], []⟩,
  ⟨some 37, .pick (.t 15) (.c (.bool true)) (.t 36), none, [8, 29], []⟩,
  ⟨some 6, .mov (.t 37), none, [30, 22, 0, 1, 2, 3, 4, 5, 6, 7, 8, 9, 10, 11, 12, 13, 14, 15, 16, 17, 18, 19, 20, 21, 22, 23, 24, 25, 26, 27, 28, 29, 30], []⟩])
(.ret)),
[.t 6], 38⟩
theorem v_liverylaw16_great_ok : compF Try.prog 40 = some v_liverylaw16_great := by kernel_rfl
def v_liverylaw16_head : VFn := ⟨.seq (.reg [⟨some 0, .mov (.c (.bool false)), none, [], []⟩])
(.seq (.reg [⟨some 21, .call 44 [(.c (.int .i64 5))], none, [], []⟩,
  ⟨some 22, .build [(.int .i64 0), (.int .i64 0), (.int .i64 0)] [(1, 2, (.t 21))], none, [0], []⟩,
  ⟨some 23, .call 44 [(.c (.int .i64 2))], none, [0], []⟩,
  ⟨some 24, .build [(.int .i64 0), (.int .i64 0), (.int .i64 0)] [(0, 1, (.c (.int .i64 10))), (1, 2, (.t 23))], none, [2], []⟩,
  ⟨some 25, .call 44 [(.c (.int .i64 5))], none, [2], []⟩,
  ⟨some 26, .build [(.int .i64 0), (.int .i64 0), (.int .i64 0)] [(0, 1, (.c (.int .i64 12))), (1, 2, (.t 25))], none, [4], []⟩,
  ⟨some 27, .build [(.int .i64 0), (.int .i64 0), (.int .i64 0)] [(0, 1, (.c (.int .i64 20)))], none, [], []⟩,
  ⟨some 28, .bsl 3 [(.t 22), (.t 24), (.t 26), (.t 27)], none, [1, 3, 5, 6], []⟩,
  ⟨some 1, .mov (.t 28), none, [7, 4, 0, 1, 2, 3, 4, 5, 6, 7], []⟩])
(.seq (.reg [⟨some 29, .build [(.int .i64 0), (.int .i64 0)] [(1, 1, (.c (.int .i64 30)))], none, [], []⟩,
  ⟨some 2, .alloc [(.int .i64 0), (.int .i64 0)], none, [], []⟩,
  ⟨none, .store 2 (.t 2) (.t 29), none, [1, 0, 0, 1], []⟩])
(.seq (.reg [⟨some 30, .call 44 [(.c (.int .i64 3))], none, [], []⟩,
  ⟨some 31, .build [(.int .i64 0), (.int .i64 0), (.int .i64 0)] [(0, 1, (.c (.int .i64 4))), (1, 2, (.t 30))], none, [0], []⟩,
  ⟨some 32, .bsl 3 [(.t 31)], none, [1], []⟩,
  ⟨some 3, .mov (.t 32), none, [2, 0, 0, 1, 2], []⟩])
(.seq (.reg [⟨some 33, .call 44 [(.c (.int .i64 3))], none, [], []⟩,
  ⟨some 34, .build [(.int .i64 0), (.int .i64 0), (.int .i64 0)] [(0, 1, (.c (.int .i64 4))), (1, 2, (.t 33))], none, [0], []⟩,
  ⟨some 35, .call 44 [(.c (.int .i64 1))], none, [0], []⟩,
  ⟨some 36, .build [(.int .i64 0), (.int .i64 0), (.int .i64 0)] [(0, 1, (.c (.int .i64 2))), (1, 2, (.t 35))], none, [2], []⟩,
  ⟨some 37, .bsl 3 [(.t 34), (.t 36)], none, [1, 3], []⟩,
  ⟨some 4, .mov (.t 37), none, [4, 2, 0, 1, 2, 3, 4], []⟩])
(.seq (.reg [⟨some 39, .mov (.t 1), none, [], []⟩,
  ⟨some 40, .load 2 true (.t 2), none, [], []⟩,
  ⟨some 41, .mov (.t 3), none, [], []⟩,
  ⟨some 42, .call 42 [(.t 39), (.t 40), (.t 41)], none, [0, 1, 2], []⟩,
  ⟨some 38, .mov (.t 42), none, [3], []⟩,
  ⟨some 43, .ext (.t 38) 0, none, [4], []⟩,
  ⟨some 44, .ext (.t 38) 1, none, [4], []⟩,
  ⟨some 5, .mov (.t 43), none, [5, 3, 0, 1, 2, 3, 4, 5], []⟩,
  ⟨some 6, .mov (.t 44), none, [6, 7, 0, 1, 2, 3, 4, 5, 6, 7], []⟩])
(.seq (.reg [⟨some 46, .mov (.t 1), none, [], []⟩,
  ⟨some 47, .load 2 true (.t 2), none, [], []⟩,
  ⟨some 48, .mov (.t 3), none, [], []⟩,
  ⟨some 49, .call 79 [(.t 46), (.t 47), (.t 48)], none, [0, 1, 2], []⟩,
  ⟨some 45, .mov (.t 49), none, [3], []⟩,
  ⟨some 50, .ext (.t 45) 0, none, [4], []⟩,
  ⟨some 51, .ext (.t 45) 1, none, [4], []⟩,
  ⟨some 7, .mov (.t 50), none, [5, 3, 0, 1, 2, 3, 4, 5], []⟩,
  ⟨some 8, .mov (.t 51), none, [6, 7, 0, 1, 2, 3, 4, 5, 6, 7], []⟩])
(.seq (.reg [⟨some 53, .mov (.t 1), none, [], []⟩,
  ⟨some 54, .load 2 true (.t 2), none, [], []⟩,
  ⟨some 55, .mov (.t 3), none, [], []⟩,
  ⟨some 56, .call 80 [(.t 53), (.t 54), (.t 55)], none, [0, 1, 2], []⟩,
  ⟨some 52, .mov (.t 56), none, [3], []⟩,
  ⟨some 57, .ext (.t 52) 0, none, [4], []⟩,
  ⟨some 58, .ext (.t 52) 1, none, [4], []⟩,
  ⟨some 9, .mov (.t 57), none, [5, 3, 0, 1, 2, 3, 4, 5], []⟩,
  ⟨some 10, .mov (.t 58), none, [6, 7, 0, 1, 2, 3, 4, 5, 6, 7], []⟩])
(.seq (.reg [⟨some 60, .mov (.t 1), none, [], []⟩,
  ⟨some 61, .build [(.int .i64 0), (.int .i64 0)] [(0, 1, (.c (.int .i64 7))), (1, 1, (.c (.int .i64 30)))], none, [], []⟩,
  ⟨some 62, .mov (.t 3), none, [], []⟩,
  ⟨some 63, .call 79 [(.t 60), (.t 61), (.t 62)], none, [0, 1, 2], []⟩,
  ⟨some 59, .mov (.t 63), none, [3], []⟩,
  ⟨some 64, .ext (.t 59) 0, none, [4], []⟩,
  ⟨some 65, .ext (.t 59) 1, none, [4], []⟩,
  ⟨some 11, .mov (.t 64), none, [5, 3, 0, 1, 2, 3, 4, 5], []⟩,
  ⟨some 12, .mov (.t 65), none, [6, 7, 0, 1, 2, 3, 4, 5, 6, 7], []⟩])
(.seq (.reg [⟨some 67, .mov (.t 1), none, [], []⟩,
  ⟨some 68, .load 2 true (.t 2), none, [], []⟩,
  ⟨some 69, .mov (.t 4), none, [], []⟩,
  ⟨some 70, .call 42 [(.t 67), (.t 68), (.t 69)], none, [0, 1, 2], []⟩,
  ⟨some 66, .mov (.t 70), none, [3], []⟩,
  ⟨some 71, .ext (.t 66) 0, none, [4], []⟩,
  ⟨some 72, .ext (.t 66) 1, none, [4], []⟩,
  ⟨some 13, .mov (.t 71), none, [5, 3, 0, 1, 2, 3, 4, 5], []⟩,
  ⟨some 14, .mov (.t 72), none, [6, 7, 0, 1, 2, 3, 4, 5, 6, 7], []⟩])
(.seq (.reg [⟨some 74, .mov (.t 4), none, [], []⟩,
  ⟨some 75, .call 81 [(.t 74)], none, [0], []⟩,
  ⟨some 73, .mov (.t 75), none, [1], []⟩,
  ⟨some 76, .ext (.t 73) 0, none, [2], []⟩,
  ⟨some 77, .ext (.t 73) 1, none, [2], []⟩,
  ⟨some 15, .mov (.t 76), none, [3, 1, 0, 1, 2, 3], []⟩,
  ⟨some 16, .mov (.t 77), none, [4, 5, 0, 1, 2, 3, 4, 5], []⟩])
(.seq (.reg [⟨some 79, .mov (.t 1), none, [], []⟩,
  ⟨some 80, .build [(.int .i64 0), (.int .i64 0)] [(0, 1, (.c (.int .i64 7))), (1, 1, (.c (.int .i64 15)))], none, [], []⟩,
  ⟨some 81, .mov (.t 3), none, [], []⟩,
  ⟨some 82, .call 79 [(.t 79), (.t 80), (.t 81)], none, [0, 1, 2], []⟩,
  ⟨some 78, .mov (.t 82), none, [3], []⟩,
  ⟨some 83, .ext (.t 78) 0, none, [4], []⟩,
  ⟨some 84, .ext (.t 78) 1, none, [4], []⟩,
  ⟨some 17, .mov (.t 83), none, [5, 3, 0, 1, 2, 3, 4, 5], []⟩,
  ⟨some 18, .mov (.t 84), none, [6, 7, 0, 1, 2, 3, 4, 5, 6, 7], []⟩])
(.seq (.reg [⟨some 86, .mov (.t 1), none, [], []⟩,
  ⟨some 87, .build [(.int .i64 0), (.int .i64 0)] [(0, 1, (.c (.int .i64 7))), (1, 1, (.c (.int .i64 7)))], none, [], []⟩,
  ⟨some 88, .mov (.t 3), none, [], []⟩,
  ⟨some 89, .call 79 [(.t 86), (.t 87), (.t 88)], none, [0, 1, 2], []⟩,
  ⟨some 85, .mov (.t 89), none, [3], []⟩,
  ⟨some 90, .ext (.t 85) 0, none, [4], []⟩,
  ⟨some 91, .ext (.t 85) 1, none, [4], []⟩,
  ⟨some 19, .mov (.t 90), none, [5, 3, 0, 1, 2, 3, 4, 5], []⟩,
  ⟨some 20, .mov (.t 91), none, [6, 7, 0, 1, 2, 3, 4, 5, 6, 7], []⟩])
(.seq (.reg [⟨some 92, .mov (.t 5), none, [], []⟩,
  ⟨some 93, .build [(.int .i64 0), (.int .i64 0)] [(1, 1, (.c (.int .i64 7)))], none, [], []⟩,
  ⟨some 94, .build [(.int .i64 0), (.int .i64 0)] [(0, 1, (.c (.int .i64 12))), (1, 1, (.c (.int .i64 17)))], none, [], []⟩,
  ⟨some 95, .bsl 2 [(.t 93), (.t 94)], none, [1, 2], []⟩,
  ⟨some 96, .call 43 [(.t 92), (.t 95)], none, [0, 3], []⟩,
  ⟨some 97, .mov (.t 96), none, [4, 4], []⟩,
  ⟨some 98, .mov (.t 6), some (97, true), [5], []⟩,
  ⟨some 99, .bin .eql (.t 98) (.c (.int .i64 0)), some (97, true), [6, 5], []⟩,
  ⟨some 100, .pick (.t 97) (.t 99) (.c (.bool false)), none, [5, 7], []⟩,
  ⟨some 101, .mov (.t 100), none, [8, 5], []⟩,
  ⟨some 102, .mov (.t 7), some (101, true), [9], []⟩,
  ⟨some 103, .bin .eql (.t 102) (.c (.int .i64 0)), some (101, true), [10, 9], []⟩,
  ⟨some 104, .pick (.t 101) (.t 103) (.c (.bool false)), none, [9, 11], []⟩,
  ⟨some 105, .mov (.t 104), none, [12, 9], []⟩,
  ⟨some 106, .mov (.t 8), some (105, true), [13], []⟩,
  ⟨some 107, .bin .eql (.t 106) (.c (.int .i64 0)), some (105, true), [14, 13], []⟩,
  ⟨some 108, .pick (.t 105) (.t 107) (.c (.bool false)), none, [13, 15], []⟩,
  ⟨some 109, .mov (.t 108), none, [16, 13], []⟩,
  ⟨some 110, .mov (.t 9), some (109, true), [17], []⟩,
  ⟨some 111, .bin .eql (.t 110) (.c (.int .i64 16)), some (109, true), [18, 17], []⟩,
  ⟨some 112, .pick (.t 109) (.t 111) (.c (.bool false)), none, [17, 19], []⟩,
  ⟨some 113, .mov (.t 112), none, [20, 17], []⟩,
  ⟨some 114, .mov (.t 10), some (113, true), [21], []⟩,
  ⟨some 115, .bin .eql (.t 114) (.c (.int .i64 0)), some (113, true), [22, 21], []⟩,
  ⟨some 116, .pick (.t 113) (.t 115) (.c (.bool false)), none, [21, 23], []⟩,
  ⟨some 117, .mov (.t 116), none, [24, 21], []⟩,
  ⟨some 118, .mov (.t 11), some (117, true), [25], []⟩,
  ⟨some 119, .bin .eql (.t 118) (.c (.int .i64 12)), some (117, true), [26, 25], []⟩,
  ⟨some 120, .pick (.t 117) (.t 119) (.c (.bool false)), none, [25, 27], []⟩,
  ⟨some 121, .mov (.t 120), none, [28, 25], []⟩,
  ⟨some 122, .mov (.t 12), some (121, true), [29], []⟩,
  ⟨some 123, .bin .eql (.t 122) (.c (.int .i64 0)), some (121, true), [30, 29], []⟩,
  ⟨some 124, .pick (.t 121) (.t 123) (.c (.bool false)), none, [29, 31], []⟩,
  ⟨some 125, .mov (.t 124), none, [32, 29], []⟩,
  ⟨some 126, .mov (.t 13), some (125, true), [33], []⟩,
  ⟨some 127, .build [(.int .i64 0), (.int .i64 0)] [(1, 1, (.c (.int .i64 7)))], some (125, true), [33], []⟩,
  ⟨some 128, .build [(.int .i64 0), (.int .i64 0)] [(0, 1, (.c (.int .i64 12))), (1, 1, (.c (.int .i64 15)))], some (125, true), [33], []⟩,
  ⟨some 129, .bsl 2 [(.t 127), (.t 128)], some (125, true), [35, 36, 33], []⟩,
  ⟨some 130, .call 43 [(.t 126), (.t 129)], some (125, true), [34, 37, 33, 33], []⟩,
  ⟨some 131, .pick (.t 125) (.t 130) (.c (.bool false)), none, [33, 38], []⟩,
  ⟨some 132, .mov (.t 131), none, [39, 38], []⟩,
  ⟨some 133, .mov (.t 14), some (132, true), [40], []⟩,
  ⟨some 134, .bin .eql (.t 133) (.c (.int .i64 0)), some (132, true), [41, 40], []⟩,
  ⟨some 135, .pick (.t 132) (.t 134) (.c (.bool false)), none, [40, 42], []⟩,
  ⟨some 136, .mov (.t 135), none, [43, 40], []⟩,
  ⟨some 137, .mov (.t 15), some (136, true), [44], []⟩,
  ⟨some 138, .bin .eql (.t 137) (.c (.int .i64 6)), some (136, true), [45, 44], []⟩,
  ⟨some 139, .pick (.t 136) (.t 138) (.c (.bool false)), none, [44, 46], []⟩,
  ⟨some 140, .mov (.t 139), none, [47, 44], []⟩,
  ⟨some 141, .mov (.t 16), some (140, true), [48], []⟩,
  ⟨some 142, .bin .eql (.t 141) (.c (.int .i64 0)), some (140, true), [49, 48], []⟩,
  ⟨some 143, .pick (.t 140) (.t 142) (.c (.bool false)), none, [48, 50], []⟩,
  ⟨some 144, .mov (.t 143), none, [51, 48], []⟩,
  ⟨some 145, .mov (.t 18), some (144, true), [52], []⟩,
  ⟨some 146, .bin .eql (.t 145) (.c (.int .i64 210)), some (144, true), [53, 52], []⟩,
  ⟨some 147, .pick (.t 144) (.t 146) (.c (.bool false)), none, [52, 54], []⟩,
  ⟨some 148, .mov (.t 147), none, [55, 52], []⟩,
  ⟨some 149, .mov (.t 20), some (148, true), [56], []⟩,
  ⟨some 150, .bin .eql (.t 149) (.c (.int .i64 2)), some (148, true), [57, 56], []⟩,
  ⟨some 151, .pick (.t 148) (.t 150) (.c (.bool false)), none, [56, 58], []⟩,
  ⟨some 0, .mov (.t 151), none, [59, 56, 0, 1, 2, 3, 4, 5, 6, 7, 8, 9, 10, 11, 12, 13, 14, 15, 16, 17, 18, 19, 20, 21, 22, 23, 24, 25, 26, 27, 28, 29, 30, 31, 32, 33, 34, 35, 36, 37, 38, 39, 40, 41, 42, 43, 44, 45, 46, 47, 48, 49, 50, 51, 52, 53, 54, 55, 56, 57, 58, 59], []⟩])
(.ret)))))))))))))),
[.t 0], 152⟩
theorem v_liverylaw16_head_ok : compF Try.prog 41 = some v_liverylaw16_head := by kernel_rfl
def v_liverylaw16_v : VFn := ⟨.seq (.reg [⟨some 2, .alloc [(.int .i64 0), (.int .i64 0)], none, [], []⟩])
(.seq (.reg [⟨some 3, .mov (.t 0), none, [], []⟩,
  ⟨some 4, .mov (.t 0), none, [], []⟩,
  ⟨some 5, .build [(.int .i64 0), (.int .i64 0)] [(0, 1, (.t 3)), (1, 1, (.t 4))], none, [0, 1], []⟩,
  ⟨none, .store 2 (.t 2) (.t 5), none, [2, 0, 1, 2], []⟩])
(.ret)),
[.c 2 2 true], 6⟩
theorem v_liverylaw16_v_ok : compF Try.prog 44 = some v_liverylaw16_v := by kernel_rfl
end Go.Proofs.Ytddbnncimggogaa.V
end
section
set_option linter.unusedSimpArgs false
set_option linter.unusedVariables false
/- slot.Earliest, Latest; liveryref16.Same; liverylaw16.v, head, great. -/
namespace Go.Proofs.Ytddbnncimggogaa.V
open Go Go.Proofs
set_option maxRecDepth 100000
set_option maxHeartbeats 4000000
theorem Earliest1_v (l : List Vec) (hn : l ≠ []) (hl : l.length ≤ 1000000000) (t : Tok) : VPure Try.prog 123 [.sl (l.map Vec.a) t] (.int .i64 ((l.head?.map (·.m)).getD 0)) := by
  have h0 : 0 < l.length := List.length_pos_iff.2 hn
  have HH : Hid ((l.head?.map (·.m)).getD 0 = l[0].m) := ⟨by rw [List.head?_eq_getElem?, List.getElem?_eq_getElem h0]; rfl⟩
  rw [HH.out]
  obtain ⟨x, hx⟩ : ∃ x, l[0] = x := ⟨_, rfl⟩
  refine VPure.of v_slot_Earliest_1_ok (Nat.le_of_ble_eq_true rfl) (fun Z st => ?_)
  simp only [v_slot_Earliest_1, ↓vD, vU, VE.ev, VE.evs, retvs, tupOf, grab, vfill, vbsl, eqCells, eqCell, veqs, veqs1, vmnx, AV.isCell, AV.isUndef, Nat.reduceEqDiff, Nat.reduceAdd, Nat.reduceSub, Nat.reduceLeDiff, Nat.reduceLT, reduceIte, reduceCtorEq, Nat.reduceBEq, k_app, k_slc1]
  (repeat' (first | (simp (config := { maxDischargeDepth := 16 }) only [*, Vec.a, vX, Int.reduceLE, Int.reduceLT, Int.reduceGE, Int.reduceGT, Int.reduceBEq, Int.reduceBNe, Int.reduceAdd, Int.reduceSub, Int.reduceMul, Int.reduceNeg, ↓vD, vU, VE.ev, VE.evs, retvs, tupOf, grab, vfill, vbsl, eqCells, eqCell, veqs, veqs1, vmnx, AV.isCell, AV.isUndef, Nat.reduceEqDiff, Nat.reduceAdd, Nat.reduceSub, Nat.reduceLeDiff, Nat.reduceLT, reduceIte, reduceCtorEq, Nat.reduceBEq]) | (simp (disch := first | assumption | omega | exact Seg.len _ | exact Vec.len _ | exact Leg.len _ | exact num_len _ | exact rowA_len _ | exact rowA_len | exact rowT_len _ | exact rowT_len | exact Seg.len | exact Vec.len | exact Leg.len | exact num_len | exact AV.slen _ _ | rfl) only [Vec.a, vP]) | (with_reducible (first | refine gsnd (fun _ => ?_) (fun _ => ?_) | refine csnd (fun _ => ?_) (fun _ => ?_) | refine gsd (fun _ => ?_) (fun _ => ?_) | refine csd (fun _ => ?_) (fun _ => ?_) | refine gsn (fun _ => ?_) (fun _ => ?_) | refine csn (fun _ => ?_) (fun _ => ?_))) | (with_reducible refine gs (fun _ => ?_) (fun _ => ?_)) | (with_reducible refine cs_ (fun _ => ?_) (fun _ => ?_)) | (with_reducible refine objQ_i (fun _ _ => ?_); (repeat (with_reducible refine imp_i (fun _ => ?_)))) | ((try with_reducible refine appK_a ?_); first | (with_reducible refine appD_F (by refine ⟨?_, ?_, ?_, ?_⟩ <;> (first | assumption | omega | exact St.has_add (by assumption) | (simp only [ins_has]; exact St.has_add (by assumption)) | (simp only [ins_has, fresh_ins, kill_ins, add_ins] at *; exact St.has_add (by assumption)) | (simp only [*, ins_has, has_full, St.has_add]; done) | (simp [-List.map_take, -List.map_drop, or_imp, forall_and, Seg.a, Vec.a, Leg.a, num, okEl, cells_agg, cells_int, cells_sl, cells_bool, AV.isCell]; done) | (simp; omega))) (fun _ _ => ?_)) | (with_reducible refine appD_V (by refine ⟨?_, ?_, ?_, ?_, ?_⟩ <;> (first | assumption | omega | exact St.has_add (by assumption) | (simp only [ins_has]; exact St.has_add (by assumption)) | (simp only [ins_has, fresh_ins, kill_ins, add_ins] at *; exact St.has_add (by assumption)) | (simp only [*, ins_has, has_full, St.has_add]; done) | (simp [-List.map_take, -List.map_drop, or_imp, forall_and, Seg.a, Vec.a, Leg.a, num, okEl, cells_agg, cells_int, cells_sl, cells_bool, AV.isCell]; done) | (simp; omega))) (fun _ _ => ?_))) | (with_reducible refine freshQ_i (fun _ _ => ?_)) | (with_reducible refine nilQ_i (fun _ _ => ?_))))
theorem Latest1_v (l : List Vec) (hn : l ≠ []) (hl : l.length ≤ 1000000000) (hb : ∀ x ∈ l, -9000000000000000000 ≤ x.c ∧ x.c ≤ 9000000000000000000) (t : Tok) : VPure Try.prog 124 [.sl (l.map Vec.a) t] (.int .i64 ((l.getLast?.map (·.c)).getD 0 - 1)) := by
  have h0 : 0 < l.length := List.length_pos_iff.2 hn
  obtain ⟨x, hx⟩ : ∃ x, l.getD (l.length - 1) default = x := ⟨_, rfl⟩
  have hg : l.getLast? = some x := by
    rw [List.getLast?_eq_getElem?, ← hx, List.getD_eq_getElem?_getD, List.getElem?_eq_getElem (by omega)]; rfl
  have hxm := hb x (by rw [← hx, List.getD_eq_getElem?_getD, List.getElem?_eq_getElem (by omega)]; exact List.getElem_mem _)
  rw [hg]
  have ha := e_iadG Vec.a l t .i64 ((l.length : Int) - 1) 2 (by omega) (by omega) rfl (by omega)
  have e1 : ((l.length : Int) - 1).toNat = l.length - 1 := by omega
  rw [e1, hx] at ha
  clear e1 hx hg
  have hw : IntKind.i64.wrap ((l.length : Int) - 1) = (l.length : Int) - 1 := wrap_i64 _ (by omega) (by omega)
  have hw2 : IntKind.i64.wrap (x.c - 1) = x.c - 1 := wrap_i64 _ (by omega) (by omega)
  refine VPure.of v_slot_Latest_1_ok (Nat.le_of_ble_eq_true rfl) (fun Z st => ?_)
  simp only [v_slot_Latest_1, ↓vD, vU, VE.ev, VE.evs, retvs, tupOf, grab, vfill, vbsl, eqCells, eqCell, veqs, veqs1, vmnx, AV.isCell, AV.isUndef, Nat.reduceEqDiff, Nat.reduceAdd, Nat.reduceSub, Nat.reduceLeDiff, Nat.reduceLT, reduceIte, reduceCtorEq, Nat.reduceBEq, k_app, k_slc1]
  (repeat' (first | (simp (config := { maxDischargeDepth := 16 }) only [*, Vec.a, vX, Int.reduceLE, Int.reduceLT, Int.reduceGE, Int.reduceGT, Int.reduceBEq, Int.reduceBNe, Int.reduceAdd, Int.reduceSub, Int.reduceMul, Int.reduceNeg, ↓vD, vU, VE.ev, VE.evs, retvs, tupOf, grab, vfill, vbsl, eqCells, eqCell, veqs, veqs1, vmnx, AV.isCell, AV.isUndef, Nat.reduceEqDiff, Nat.reduceAdd, Nat.reduceSub, Nat.reduceLeDiff, Nat.reduceLT, reduceIte, reduceCtorEq, Nat.reduceBEq]) | (simp (disch := first | assumption | omega | exact Seg.len _ | exact Vec.len _ | exact Leg.len _ | exact num_len _ | exact rowA_len _ | exact rowA_len | exact rowT_len _ | exact rowT_len | exact Seg.len | exact Vec.len | exact Leg.len | exact num_len | exact AV.slen _ _ | rfl) only [Vec.a, vP]) | (with_reducible (first | refine gsnd (fun _ => ?_) (fun _ => ?_) | refine csnd (fun _ => ?_) (fun _ => ?_) | refine gsd (fun _ => ?_) (fun _ => ?_) | refine csd (fun _ => ?_) (fun _ => ?_) | refine gsn (fun _ => ?_) (fun _ => ?_) | refine csn (fun _ => ?_) (fun _ => ?_))) | (with_reducible refine gs (fun _ => ?_) (fun _ => ?_)) | (with_reducible refine cs_ (fun _ => ?_) (fun _ => ?_)) | (with_reducible refine objQ_i (fun _ _ => ?_); (repeat (with_reducible refine imp_i (fun _ => ?_)))) | ((try with_reducible refine appK_a ?_); first | (with_reducible refine appD_F (by refine ⟨?_, ?_, ?_, ?_⟩ <;> (first | assumption | omega | exact St.has_add (by assumption) | (simp only [ins_has]; exact St.has_add (by assumption)) | (simp only [ins_has, fresh_ins, kill_ins, add_ins] at *; exact St.has_add (by assumption)) | (simp only [*, ins_has, has_full, St.has_add]; done) | (simp [-List.map_take, -List.map_drop, or_imp, forall_and, Seg.a, Vec.a, Leg.a, num, okEl, cells_agg, cells_int, cells_sl, cells_bool, AV.isCell]; done) | (simp; omega))) (fun _ _ => ?_)) | (with_reducible refine appD_V (by refine ⟨?_, ?_, ?_, ?_, ?_⟩ <;> (first | assumption | omega | exact St.has_add (by assumption) | (simp only [ins_has]; exact St.has_add (by assumption)) | (simp only [ins_has, fresh_ins, kill_ins, add_ins] at *; exact St.has_add (by assumption)) | (simp only [*, ins_has, has_full, St.has_add]; done) | (simp [-List.map_take, -List.map_drop, or_imp, forall_and, Seg.a, Vec.a, Leg.a, num, okEl, cells_agg, cells_int, cells_sl, cells_bool, AV.isCell]; done) | (simp; omega))) (fun _ _ => ?_))) | (with_reducible refine freshQ_i (fun _ _ => ?_)) | (with_reducible refine nilQ_i (fun _ _ => ?_))))
  all_goals simp
/-- What is told of begins: the first one, or an error. -/
def askF (g : List Vec → Int) (b : List Vec × Int) : Int × Int := if b.2 ≠ 0 then (0, b.2) else if b.1 = [] then (0, 210) else (g b.1, 0)
theorem beginsF_len (f : List Seg) (w : Vec) (l : List Leg) : (beginsF f w l).1.length ≤ 5000 ∧ ∀ x ∈ (beginsF f w l).1, -9000000000000000000 ≤ x.c ∧ x.c ≤ 9000000000000000000 := by
  by_cases h : (checkF f w l).2 = 0
  · have hO := check_ok.1 h
    have hr := (begins_is hO).1
    have h1 := hO.win
    have h2 := hO.span
    have h3 := hO.from_
    have h4 := hO.to_
    simp only [farF, Bool.or_eq_false_iff, decide_eq_false_iff_not] at h3 h4
    refine ⟨?_, ?_⟩
    · have := hr.rows.len (by omega)
      omega
    · have key : ∀ (l : List Vec) (lo : Int), w.m ≤ lo → RowsG lo (w.c + 1) l → ∀ x ∈ l, w.m ≤ x.c ∧ x.c ≤ w.c + 1 := by
        intro l
        induction l with
        | nil => intro _ _ _ x hx; cases hx
        | cons y r ih =>
          rintro lo hlo ⟨a, b, c, d⟩ x hx
          rcases List.mem_cons.1 hx with rfl | hx
          · omega
          · exact ih _ (by omega) d x hx
      intro x hx
      have := key _ _ (Int.le_refl _) hr x hx
      omega
  · have : (beginsF f w l).1 = [] := by unfold beginsF; rw [if_pos (.inl h)]
    rw [this]; simp
theorem Earliest_c (f : List Seg) (hf : f.length ≤ 1000000) (w : Vec) (h1 : -9223372036854775808 ≤ w.m) (h2 : w.c ≤ 9223372036854775807) (l : List Leg) (hl : l.length ≤ 1000000000) (t t' : Tok) :
    VPure Try.prog 79 [.sl (f.map Seg.a) t, .agg [.int .i64 w.m, .int .i64 w.c], .sl (l.map Leg.a) t'] (.tup [num (askF (fun b => (b.head?.map (·.m)).getD 0) (beginsF f w l)).1, num (askF (fun b => (b.head?.map (·.m)).getD 0) (beginsF f w l)).2]) := by
  have hB := Begins_c f hf w h1 h2 l hl t t'
  have hlen := beginsF_len f w l
  obtain ⟨b, hb⟩ : ∃ b, beginsF f w l = b := ⟨_, rfl⟩
  rw [hb] at hB hlen ⊢
  have hE := end_v b.1 (by omega) .no (gf := 123) (fs := []) (cs := []) (fun b : List Vec => (b.head?.map Vec.m).getD 0) (fun hne => Earliest1_v b.1 hne (by omega) .no)
  unfold num at hB hE
  have HA : Hid (askF (fun b => (b.head?.map (·.m)).getD 0) b = if b.2 ≠ 0 then (0, b.2) else if b.1 = [] then (0, 210) else ((b.1.head?.map (·.m)).getD 0, 0)) := ⟨rfl⟩
  clear hb hlen
  refine VPure.of v_slot_Earliest_ok (Nat.le_of_ble_eq_true rfl) (fun Z st => ?_)
  simp only [v_slot_Earliest, ↓vD, vU, VE.ev, VE.evs, retvs, tupOf, grab, vfill, vbsl, eqCells, eqCell, veqs, veqs1, vmnx, AV.isCell, AV.isUndef, Nat.reduceEqDiff, Nat.reduceAdd, Nat.reduceSub, Nat.reduceLeDiff, Nat.reduceLT, reduceIte, reduceCtorEq, Nat.reduceBEq, k_app, k_slc1]
  by_cases h0 : b.2 = 0
  · (repeat' (first | (simp (config := { maxDischargeDepth := 16 }) only [*, num, vX, Int.reduceLE, Int.reduceLT, Int.reduceGE, Int.reduceGT, Int.reduceBEq, Int.reduceBNe, Int.reduceAdd, Int.reduceSub, Int.reduceMul, Int.reduceNeg, ↓vD, vU, VE.ev, VE.evs, retvs, tupOf, grab, vfill, vbsl, eqCells, eqCell, veqs, veqs1, vmnx, AV.isCell, AV.isUndef, Nat.reduceEqDiff, Nat.reduceAdd, Nat.reduceSub, Nat.reduceLeDiff, Nat.reduceLT, reduceIte, reduceCtorEq, Nat.reduceBEq]) | (simp (disch := first | assumption | omega | exact Seg.len _ | exact Vec.len _ | exact Leg.len _ | exact num_len _ | exact rowA_len _ | exact rowA_len | exact rowT_len _ | exact rowT_len | exact Seg.len | exact Vec.len | exact Leg.len | exact num_len | exact AV.slen _ _ | rfl) only [num, vP]) | (with_reducible (first | refine gsnd (fun _ => ?_) (fun _ => ?_) | refine csnd (fun _ => ?_) (fun _ => ?_) | refine gsd (fun _ => ?_) (fun _ => ?_) | refine csd (fun _ => ?_) (fun _ => ?_) | refine gsn (fun _ => ?_) (fun _ => ?_) | refine csn (fun _ => ?_) (fun _ => ?_))) | (with_reducible refine gs (fun _ => ?_) (fun _ => ?_)) | (with_reducible refine cs_ (fun _ => ?_) (fun _ => ?_)) | (with_reducible refine objQ_i (fun _ _ => ?_); (repeat (with_reducible refine imp_i (fun _ => ?_)))) | ((try with_reducible refine appK_a ?_); first | (with_reducible refine appD_F (by refine ⟨?_, ?_, ?_, ?_⟩ <;> (first | assumption | omega | exact St.has_add (by assumption) | (simp only [ins_has]; exact St.has_add (by assumption)) | (simp only [ins_has, fresh_ins, kill_ins, add_ins] at *; exact St.has_add (by assumption)) | (simp only [*, ins_has, has_full, St.has_add]; done) | (simp [-List.map_take, -List.map_drop, or_imp, forall_and, Seg.a, Vec.a, Leg.a, num, okEl, cells_agg, cells_int, cells_sl, cells_bool, AV.isCell]; done) | (simp; omega))) (fun _ _ => ?_)) | (with_reducible refine appD_V (by refine ⟨?_, ?_, ?_, ?_, ?_⟩ <;> (first | assumption | omega | exact St.has_add (by assumption) | (simp only [ins_has]; exact St.has_add (by assumption)) | (simp only [ins_has, fresh_ins, kill_ins, add_ins] at *; exact St.has_add (by assumption)) | (simp only [*, ins_has, has_full, St.has_add]; done) | (simp [-List.map_take, -List.map_drop, or_imp, forall_and, Seg.a, Vec.a, Leg.a, num, okEl, cells_agg, cells_int, cells_sl, cells_bool, AV.isCell]; done) | (simp; omega))) (fun _ _ => ?_))) | (with_reducible refine freshQ_i (fun _ _ => ?_)) | (with_reducible refine nilQ_i (fun _ _ => ?_)) | (with_reducible first | refine callH_use (hB) ?_ | refine pureQ_use (hB) ?_) | (with_reducible first | refine callH_use (hE) ?_ | refine pureQ_use (hE) ?_)))
    all_goals (rw [HA.out]; by_cases hn : b.1 = [] <;> simp [h0, hn])
  · (repeat' (first | (simp (config := { maxDischargeDepth := 16 }) only [*, num, vX, Int.reduceLE, Int.reduceLT, Int.reduceGE, Int.reduceGT, Int.reduceBEq, Int.reduceBNe, Int.reduceAdd, Int.reduceSub, Int.reduceMul, Int.reduceNeg, ↓vD, vU, VE.ev, VE.evs, retvs, tupOf, grab, vfill, vbsl, eqCells, eqCell, veqs, veqs1, vmnx, AV.isCell, AV.isUndef, Nat.reduceEqDiff, Nat.reduceAdd, Nat.reduceSub, Nat.reduceLeDiff, Nat.reduceLT, reduceIte, reduceCtorEq, Nat.reduceBEq]) | (simp (disch := first | assumption | omega | exact Seg.len _ | exact Vec.len _ | exact Leg.len _ | exact num_len _ | exact rowA_len _ | exact rowA_len | exact rowT_len _ | exact rowT_len | exact Seg.len | exact Vec.len | exact Leg.len | exact num_len | exact AV.slen _ _ | rfl) only [num, vP]) | (with_reducible (first | refine gsnd (fun _ => ?_) (fun _ => ?_) | refine csnd (fun _ => ?_) (fun _ => ?_) | refine gsd (fun _ => ?_) (fun _ => ?_) | refine csd (fun _ => ?_) (fun _ => ?_) | refine gsn (fun _ => ?_) (fun _ => ?_) | refine csn (fun _ => ?_) (fun _ => ?_))) | (with_reducible refine gs (fun _ => ?_) (fun _ => ?_)) | (with_reducible refine cs_ (fun _ => ?_) (fun _ => ?_)) | (with_reducible refine objQ_i (fun _ _ => ?_); (repeat (with_reducible refine imp_i (fun _ => ?_)))) | ((try with_reducible refine appK_a ?_); first | (with_reducible refine appD_F (by refine ⟨?_, ?_, ?_, ?_⟩ <;> (first | assumption | omega | exact St.has_add (by assumption) | (simp only [ins_has]; exact St.has_add (by assumption)) | (simp only [ins_has, fresh_ins, kill_ins, add_ins] at *; exact St.has_add (by assumption)) | (simp only [*, ins_has, has_full, St.has_add]; done) | (simp [-List.map_take, -List.map_drop, or_imp, forall_and, Seg.a, Vec.a, Leg.a, num, okEl, cells_agg, cells_int, cells_sl, cells_bool, AV.isCell]; done) | (simp; omega))) (fun _ _ => ?_)) | (with_reducible refine appD_V (by refine ⟨?_, ?_, ?_, ?_, ?_⟩ <;> (first | assumption | omega | exact St.has_add (by assumption) | (simp only [ins_has]; exact St.has_add (by assumption)) | (simp only [ins_has, fresh_ins, kill_ins, add_ins] at *; exact St.has_add (by assumption)) | (simp only [*, ins_has, has_full, St.has_add]; done) | (simp [-List.map_take, -List.map_drop, or_imp, forall_and, Seg.a, Vec.a, Leg.a, num, okEl, cells_agg, cells_int, cells_sl, cells_bool, AV.isCell]; done) | (simp; omega))) (fun _ _ => ?_))) | (with_reducible refine freshQ_i (fun _ _ => ?_)) | (with_reducible refine nilQ_i (fun _ _ => ?_)) | (with_reducible first | refine callH_use (hB) ?_ | refine pureQ_use (hB) ?_) | (with_reducible first | refine callH_use (hE) ?_ | refine pureQ_use (hE) ?_)))
    all_goals (rw [HA.out]; simp [h0])
theorem Latest_c (f : List Seg) (hf : f.length ≤ 1000000) (w : Vec) (h1 : -9223372036854775808 ≤ w.m) (h2 : w.c ≤ 9223372036854775807) (l : List Leg) (hl : l.length ≤ 1000000000) (t t' : Tok) :
    VPure Try.prog 80 [.sl (f.map Seg.a) t, .agg [.int .i64 w.m, .int .i64 w.c], .sl (l.map Leg.a) t'] (.tup [num (askF (fun b => (b.getLast?.map (·.c)).getD 0 - 1) (beginsF f w l)).1, num (askF (fun b => (b.getLast?.map (·.c)).getD 0 - 1) (beginsF f w l)).2]) := by
  have hB := Begins_c f hf w h1 h2 l hl t t'
  have hlen := beginsF_len f w l
  obtain ⟨b, hb⟩ : ∃ b, beginsF f w l = b := ⟨_, rfl⟩
  rw [hb] at hB hlen ⊢
  have hE := end_v b.1 (by omega) .no (gf := 124) (fs := []) (cs := []) (fun b : List Vec => (b.getLast?.map Vec.c).getD 0 - 1) (fun hne => Latest1_v b.1 hne (by omega) hlen.2 .no)
  unfold num at hB hE
  have HA : Hid (askF (fun b => (b.getLast?.map (·.c)).getD 0 - 1) b = if b.2 ≠ 0 then (0, b.2) else if b.1 = [] then (0, 210) else ((b.1.getLast?.map (·.c)).getD 0 - 1, 0)) := ⟨rfl⟩
  clear hb hlen
  refine VPure.of v_slot_Latest_ok (Nat.le_of_ble_eq_true rfl) (fun Z st => ?_)
  simp only [v_slot_Latest, ↓vD, vU, VE.ev, VE.evs, retvs, tupOf, grab, vfill, vbsl, eqCells, eqCell, veqs, veqs1, vmnx, AV.isCell, AV.isUndef, Nat.reduceEqDiff, Nat.reduceAdd, Nat.reduceSub, Nat.reduceLeDiff, Nat.reduceLT, reduceIte, reduceCtorEq, Nat.reduceBEq, k_app, k_slc1]
  by_cases h0 : b.2 = 0
  · (repeat' (first | (simp (config := { maxDischargeDepth := 16 }) only [*, num, vX, Int.reduceLE, Int.reduceLT, Int.reduceGE, Int.reduceGT, Int.reduceBEq, Int.reduceBNe, Int.reduceAdd, Int.reduceSub, Int.reduceMul, Int.reduceNeg, ↓vD, vU, VE.ev, VE.evs, retvs, tupOf, grab, vfill, vbsl, eqCells, eqCell, veqs, veqs1, vmnx, AV.isCell, AV.isUndef, Nat.reduceEqDiff, Nat.reduceAdd, Nat.reduceSub, Nat.reduceLeDiff, Nat.reduceLT, reduceIte, reduceCtorEq, Nat.reduceBEq]) | (simp (disch := first | assumption | omega | exact Seg.len _ | exact Vec.len _ | exact Leg.len _ | exact num_len _ | exact rowA_len _ | exact rowA_len | exact rowT_len _ | exact rowT_len | exact Seg.len | exact Vec.len | exact Leg.len | exact num_len | exact AV.slen _ _ | rfl) only [num, vP]) | (with_reducible (first | refine gsnd (fun _ => ?_) (fun _ => ?_) | refine csnd (fun _ => ?_) (fun _ => ?_) | refine gsd (fun _ => ?_) (fun _ => ?_) | refine csd (fun _ => ?_) (fun _ => ?_) | refine gsn (fun _ => ?_) (fun _ => ?_) | refine csn (fun _ => ?_) (fun _ => ?_))) | (with_reducible refine gs (fun _ => ?_) (fun _ => ?_)) | (with_reducible refine cs_ (fun _ => ?_) (fun _ => ?_)) | (with_reducible refine objQ_i (fun _ _ => ?_); (repeat (with_reducible refine imp_i (fun _ => ?_)))) | ((try with_reducible refine appK_a ?_); first | (with_reducible refine appD_F (by refine ⟨?_, ?_, ?_, ?_⟩ <;> (first | assumption | omega | exact St.has_add (by assumption) | (simp only [ins_has]; exact St.has_add (by assumption)) | (simp only [ins_has, fresh_ins, kill_ins, add_ins] at *; exact St.has_add (by assumption)) | (simp only [*, ins_has, has_full, St.has_add]; done) | (simp [-List.map_take, -List.map_drop, or_imp, forall_and, Seg.a, Vec.a, Leg.a, num, okEl, cells_agg, cells_int, cells_sl, cells_bool, AV.isCell]; done) | (simp; omega))) (fun _ _ => ?_)) | (with_reducible refine appD_V (by refine ⟨?_, ?_, ?_, ?_, ?_⟩ <;> (first | assumption | omega | exact St.has_add (by assumption) | (simp only [ins_has]; exact St.has_add (by assumption)) | (simp only [ins_has, fresh_ins, kill_ins, add_ins] at *; exact St.has_add (by assumption)) | (simp only [*, ins_has, has_full, St.has_add]; done) | (simp [-List.map_take, -List.map_drop, or_imp, forall_and, Seg.a, Vec.a, Leg.a, num, okEl, cells_agg, cells_int, cells_sl, cells_bool, AV.isCell]; done) | (simp; omega))) (fun _ _ => ?_))) | (with_reducible refine freshQ_i (fun _ _ => ?_)) | (with_reducible refine nilQ_i (fun _ _ => ?_)) | (with_reducible first | refine callH_use (hB) ?_ | refine pureQ_use (hB) ?_) | (with_reducible first | refine callH_use (hE) ?_ | refine pureQ_use (hE) ?_)))
    all_goals (rw [HA.out]; by_cases hn : b.1 = [] <;> simp [h0, hn])
  · (repeat' (first | (simp (config := { maxDischargeDepth := 16 }) only [*, num, vX, Int.reduceLE, Int.reduceLT, Int.reduceGE, Int.reduceGT, Int.reduceBEq, Int.reduceBNe, Int.reduceAdd, Int.reduceSub, Int.reduceMul, Int.reduceNeg, ↓vD, vU, VE.ev, VE.evs, retvs, tupOf, grab, vfill, vbsl, eqCells, eqCell, veqs, veqs1, vmnx, AV.isCell, AV.isUndef, Nat.reduceEqDiff, Nat.reduceAdd, Nat.reduceSub, Nat.reduceLeDiff, Nat.reduceLT, reduceIte, reduceCtorEq, Nat.reduceBEq]) | (simp (disch := first | assumption | omega | exact Seg.len _ | exact Vec.len _ | exact Leg.len _ | exact num_len _ | exact rowA_len _ | exact rowA_len | exact rowT_len _ | exact rowT_len | exact Seg.len | exact Vec.len | exact Leg.len | exact num_len | exact AV.slen _ _ | rfl) only [num, vP]) | (with_reducible (first | refine gsnd (fun _ => ?_) (fun _ => ?_) | refine csnd (fun _ => ?_) (fun _ => ?_) | refine gsd (fun _ => ?_) (fun _ => ?_) | refine csd (fun _ => ?_) (fun _ => ?_) | refine gsn (fun _ => ?_) (fun _ => ?_) | refine csn (fun _ => ?_) (fun _ => ?_))) | (with_reducible refine gs (fun _ => ?_) (fun _ => ?_)) | (with_reducible refine cs_ (fun _ => ?_) (fun _ => ?_)) | (with_reducible refine objQ_i (fun _ _ => ?_); (repeat (with_reducible refine imp_i (fun _ => ?_)))) | ((try with_reducible refine appK_a ?_); first | (with_reducible refine appD_F (by refine ⟨?_, ?_, ?_, ?_⟩ <;> (first | assumption | omega | exact St.has_add (by assumption) | (simp only [ins_has]; exact St.has_add (by assumption)) | (simp only [ins_has, fresh_ins, kill_ins, add_ins] at *; exact St.has_add (by assumption)) | (simp only [*, ins_has, has_full, St.has_add]; done) | (simp [-List.map_take, -List.map_drop, or_imp, forall_and, Seg.a, Vec.a, Leg.a, num, okEl, cells_agg, cells_int, cells_sl, cells_bool, AV.isCell]; done) | (simp; omega))) (fun _ _ => ?_)) | (with_reducible refine appD_V (by refine ⟨?_, ?_, ?_, ?_, ?_⟩ <;> (first | assumption | omega | exact St.has_add (by assumption) | (simp only [ins_has]; exact St.has_add (by assumption)) | (simp only [ins_has, fresh_ins, kill_ins, add_ins] at *; exact St.has_add (by assumption)) | (simp only [*, ins_has, has_full, St.has_add]; done) | (simp [-List.map_take, -List.map_drop, or_imp, forall_and, Seg.a, Vec.a, Leg.a, num, okEl, cells_agg, cells_int, cells_sl, cells_bool, AV.isCell]; done) | (simp; omega))) (fun _ _ => ?_))) | (with_reducible refine freshQ_i (fun _ _ => ?_)) | (with_reducible refine nilQ_i (fun _ _ => ?_)) | (with_reducible first | refine callH_use (hB) ?_ | refine pureQ_use (hB) ?_) | (with_reducible first | refine callH_use (hE) ?_ | refine pureQ_use (hE) ?_)))
    all_goals (rw [HA.out]; simp [h0])
theorem Same_16 (a b : List Vec) (ha : a.length ≤ 1000000000) (t t' : Tok) : VPure Try.prog 43 [.sl (a.map Vec.a) t, .sl (b.map Vec.a) t'] (.bool (a == b)) := by
  refine VPure.of v_liveryref16_Same_ok (Nat.le_of_ble_eq_true rfl) (fun Z st => ?_)
  simp only [v_liveryref16_Same, ↓vD, vU, VE.ev, VE.evs, retvs, tupOf, grab, vfill, vbsl, eqCells, eqCell, veqs, veqs1, vmnx, AV.isCell, AV.isUndef, Nat.reduceEqDiff, Nat.reduceAdd, Nat.reduceSub, Nat.reduceLeDiff, Nat.reduceLT, reduceIte, reduceCtorEq, Nat.reduceBEq, k_app, k_slc1]
  (repeat' (first | (simp (config := { maxDischargeDepth := 16 }) only [*, vX, Int.reduceLE, Int.reduceLT, Int.reduceGE, Int.reduceGT, Int.reduceBEq, Int.reduceBNe, Int.reduceAdd, Int.reduceSub, Int.reduceMul, Int.reduceNeg, ↓vD, vU, VE.ev, VE.evs, retvs, tupOf, grab, vfill, vbsl, eqCells, eqCell, veqs, veqs1, vmnx, AV.isCell, AV.isUndef, Nat.reduceEqDiff, Nat.reduceAdd, Nat.reduceSub, Nat.reduceLeDiff, Nat.reduceLT, reduceIte, reduceCtorEq, Nat.reduceBEq]) | (simp (disch := first | assumption | omega | exact Seg.len _ | exact Vec.len _ | exact Leg.len _ | exact num_len _ | exact rowA_len _ | exact rowA_len | exact rowT_len _ | exact rowT_len | exact Seg.len | exact Vec.len | exact Leg.len | exact num_len | exact AV.slen _ _ | rfl) only [vP]) | (with_reducible (first | refine gsnd (fun _ => ?_) (fun _ => ?_) | refine csnd (fun _ => ?_) (fun _ => ?_) | refine gsd (fun _ => ?_) (fun _ => ?_) | refine csd (fun _ => ?_) (fun _ => ?_) | refine gsn (fun _ => ?_) (fun _ => ?_) | refine csn (fun _ => ?_) (fun _ => ?_))) | (with_reducible refine gs (fun _ => ?_) (fun _ => ?_)) | (with_reducible refine cs_ (fun _ => ?_) (fun _ => ?_)) | (with_reducible refine objQ_i (fun _ _ => ?_); (repeat (with_reducible refine imp_i (fun _ => ?_)))) | ((try with_reducible refine appK_a ?_); first | (with_reducible refine appD_F (by refine ⟨?_, ?_, ?_, ?_⟩ <;> (first | assumption | omega | exact St.has_add (by assumption) | (simp only [ins_has]; exact St.has_add (by assumption)) | (simp only [ins_has, fresh_ins, kill_ins, add_ins] at *; exact St.has_add (by assumption)) | (simp only [*, ins_has, has_full, St.has_add]; done) | (simp [-List.map_take, -List.map_drop, or_imp, forall_and, Seg.a, Vec.a, Leg.a, num, okEl, cells_agg, cells_int, cells_sl, cells_bool, AV.isCell]; done) | (simp; omega))) (fun _ _ => ?_)) | (with_reducible refine appD_V (by refine ⟨?_, ?_, ?_, ?_, ?_⟩ <;> (first | assumption | omega | exact St.has_add (by assumption) | (simp only [ins_has]; exact St.has_add (by assumption)) | (simp only [ins_has, fresh_ins, kill_ins, add_ins] at *; exact St.has_add (by assumption)) | (simp only [*, ins_has, has_full, St.has_add]; done) | (simp [-List.map_take, -List.map_drop, or_imp, forall_and, Seg.a, Vec.a, Leg.a, num, okEl, cells_agg, cells_int, cells_sl, cells_bool, AV.isCell]; done) | (simp; omega))) (fun _ _ => ?_))) | (with_reducible refine freshQ_i (fun _ _ => ?_)) | (with_reducible refine nilQ_i (fun _ _ => ?_))))
  · rename_i h
    have hne : a ≠ b := fun e => by subst e; simp at h
    simp [hne]
  · rename_i h
    have hl : a.length = b.length := by first | omega | (simp at h; omega)
    clear h
    refine loopf_of (len := a.length) (by simp only [asgL, dsts, List.cons_append, List.nil_append, List.append_nil]; rfl) (by simp only [noR, Bool.and_true, Bool.and_false]; rfl) (by omega) (fun k fr s => s = st ∧ fr.t 5 = .int .i64 k ∧ a.take k = b.take k) ?_ ?_ ?_
    · simp [↓vD, vU, VE.ev, VE.evs, retvs, tupOf, grab, vfill, vbsl, eqCells, eqCell, veqs, veqs1, vmnx, AV.isCell, AV.isUndef, Nat.reduceEqDiff, Nat.reduceAdd, Nat.reduceSub, Nat.reduceLeDiff, Nat.reduceLT, reduceIte, reduceCtorEq, Nat.reduceBEq, k_app, k_slc1]
    · rintro k fr s hk hw hfr hd ⟨rfl, h13, hp⟩
      have hk' : k < b.length := by omega
      (repeat' (first | (simp (config := { maxDischargeDepth := 16 }) only [*, Vec.a, vX, Int.reduceLE, Int.reduceLT, Int.reduceGE, Int.reduceGT, Int.reduceBEq, Int.reduceBNe, Int.reduceAdd, Int.reduceSub, Int.reduceMul, Int.reduceNeg, ↓vD, vU, VE.ev, VE.evs, retvs, tupOf, grab, vfill, vbsl, eqCells, eqCell, veqs, veqs1, vmnx, AV.isCell, AV.isUndef, Nat.reduceEqDiff, Nat.reduceAdd, Nat.reduceSub, Nat.reduceLeDiff, Nat.reduceLT, reduceIte, reduceCtorEq, Nat.reduceBEq]) | (simp (disch := first | assumption | omega | exact Seg.len _ | exact Vec.len _ | exact Leg.len _ | exact num_len _ | exact rowA_len _ | exact rowA_len | exact rowT_len _ | exact rowT_len | exact Seg.len | exact Vec.len | exact Leg.len | exact num_len | exact AV.slen _ _ | rfl) only [Vec.a, vP]) | (with_reducible (first | refine gsnd (fun _ => ?_) (fun _ => ?_) | refine csnd (fun _ => ?_) (fun _ => ?_) | refine gsd (fun _ => ?_) (fun _ => ?_) | refine csd (fun _ => ?_) (fun _ => ?_) | refine gsn (fun _ => ?_) (fun _ => ?_) | refine csn (fun _ => ?_) (fun _ => ?_))) | (with_reducible refine gs (fun _ => ?_) (fun _ => ?_)) | (with_reducible refine cs_ (fun _ => ?_) (fun _ => ?_)) | (with_reducible refine objQ_i (fun _ _ => ?_); (repeat (with_reducible refine imp_i (fun _ => ?_)))) | ((try with_reducible refine appK_a ?_); first | (with_reducible refine appD_F (by refine ⟨?_, ?_, ?_, ?_⟩ <;> (first | assumption | omega | exact St.has_add (by assumption) | (simp only [ins_has]; exact St.has_add (by assumption)) | (simp only [ins_has, fresh_ins, kill_ins, add_ins] at *; exact St.has_add (by assumption)) | (simp only [*, ins_has, has_full, St.has_add]; done) | (simp [-List.map_take, -List.map_drop, or_imp, forall_and, Seg.a, Vec.a, Leg.a, num, okEl, cells_agg, cells_int, cells_sl, cells_bool, AV.isCell]; done) | (simp; omega))) (fun _ _ => ?_)) | (with_reducible refine appD_V (by refine ⟨?_, ?_, ?_, ?_, ?_⟩ <;> (first | assumption | omega | exact St.has_add (by assumption) | (simp only [ins_has]; exact St.has_add (by assumption)) | (simp only [ins_has, fresh_ins, kill_ins, add_ins] at *; exact St.has_add (by assumption)) | (simp only [*, ins_has, has_full, St.has_add]; done) | (simp [-List.map_take, -List.map_drop, or_imp, forall_and, Seg.a, Vec.a, Leg.a, num, okEl, cells_agg, cells_int, cells_sl, cells_bool, AV.isCell]; done) | (simp; omega))) (fun _ _ => ?_))) | (with_reducible refine freshQ_i (fun _ _ => ?_)) | (with_reducible refine nilQ_i (fun _ _ => ?_))))
      · rename_i hc
        have hne : a ≠ b := fun e => by subst e; simp at hc
        simp [hne]
      · rename_i hc
        have he : a[k] = b[k] := by
          have := vec_beq a[k] b[k]
          try simp only [Bool.not_eq_false'] at hc
          rw [hc] at this
          exact eq_of_beq this
        rw [List.take_add_one, List.take_add_one, hp, List.getElem?_eq_getElem hk, List.getElem?_eq_getElem hk', he]
    · rintro fr s hfr hd ⟨rfl, h13, hp⟩
      (repeat' (first | (simp (config := { maxDischargeDepth := 16 }) only [*, vX, Int.reduceLE, Int.reduceLT, Int.reduceGE, Int.reduceGT, Int.reduceBEq, Int.reduceBNe, Int.reduceAdd, Int.reduceSub, Int.reduceMul, Int.reduceNeg, ↓vD, vU, VE.ev, VE.evs, retvs, tupOf, grab, vfill, vbsl, eqCells, eqCell, veqs, veqs1, vmnx, AV.isCell, AV.isUndef, Nat.reduceEqDiff, Nat.reduceAdd, Nat.reduceSub, Nat.reduceLeDiff, Nat.reduceLT, reduceIte, reduceCtorEq, Nat.reduceBEq]) | (simp (disch := first | assumption | omega | exact Seg.len _ | exact Vec.len _ | exact Leg.len _ | exact num_len _ | exact rowA_len _ | exact rowA_len | exact rowT_len _ | exact rowT_len | exact Seg.len | exact Vec.len | exact Leg.len | exact num_len | exact AV.slen _ _ | rfl) only [vP]) | (with_reducible (first | refine gsnd (fun _ => ?_) (fun _ => ?_) | refine csnd (fun _ => ?_) (fun _ => ?_) | refine gsd (fun _ => ?_) (fun _ => ?_) | refine csd (fun _ => ?_) (fun _ => ?_) | refine gsn (fun _ => ?_) (fun _ => ?_) | refine csn (fun _ => ?_) (fun _ => ?_))) | (with_reducible refine gs (fun _ => ?_) (fun _ => ?_)) | (with_reducible refine cs_ (fun _ => ?_) (fun _ => ?_)) | (with_reducible refine objQ_i (fun _ _ => ?_); (repeat (with_reducible refine imp_i (fun _ => ?_)))) | ((try with_reducible refine appK_a ?_); first | (with_reducible refine appD_F (by refine ⟨?_, ?_, ?_, ?_⟩ <;> (first | assumption | omega | exact St.has_add (by assumption) | (simp only [ins_has]; exact St.has_add (by assumption)) | (simp only [ins_has, fresh_ins, kill_ins, add_ins] at *; exact St.has_add (by assumption)) | (simp only [*, ins_has, has_full, St.has_add]; done) | (simp [-List.map_take, -List.map_drop, or_imp, forall_and, Seg.a, Vec.a, Leg.a, num, okEl, cells_agg, cells_int, cells_sl, cells_bool, AV.isCell]; done) | (simp; omega))) (fun _ _ => ?_)) | (with_reducible refine appD_V (by refine ⟨?_, ?_, ?_, ?_, ?_⟩ <;> (first | assumption | omega | exact St.has_add (by assumption) | (simp only [ins_has]; exact St.has_add (by assumption)) | (simp only [ins_has, fresh_ins, kill_ins, add_ins] at *; exact St.has_add (by assumption)) | (simp only [*, ins_has, has_full, St.has_add]; done) | (simp [-List.map_take, -List.map_drop, or_imp, forall_and, Seg.a, Vec.a, Leg.a, num, okEl, cells_agg, cells_int, cells_sl, cells_bool, AV.isCell]; done) | (simp; omega))) (fun _ _ => ?_))) | (with_reducible refine freshQ_i (fun _ _ => ?_)) | (with_reducible refine nilQ_i (fun _ _ => ?_))))
      rw [List.take_length, hl, List.take_length] at hp
      simp [hp]
theorem v_16 (n : Int) : VPure Try.prog 44 [.int .i64 n] (.agg [.int .i64 n, .int .i64 n]) := by
  refine VPure.of v_liverylaw16_v_ok (Nat.le_of_ble_eq_true rfl) (fun Z st => ?_)
  simp only [v_liverylaw16_v, ↓vD, vU, VE.ev, VE.evs, retvs, tupOf, grab, vfill, vbsl, eqCells, eqCell, veqs, veqs1, vmnx, AV.isCell, AV.isUndef, Nat.reduceEqDiff, Nat.reduceAdd, Nat.reduceSub, Nat.reduceLeDiff, Nat.reduceLT, reduceIte, reduceCtorEq, Nat.reduceBEq, k_app, k_slc1]
  (repeat' (first | (simp (config := { maxDischargeDepth := 16 }) only [*, vX, Int.reduceLE, Int.reduceLT, Int.reduceGE, Int.reduceGT, Int.reduceBEq, Int.reduceBNe, Int.reduceAdd, Int.reduceSub, Int.reduceMul, Int.reduceNeg, ↓vD, vU, VE.ev, VE.evs, retvs, tupOf, grab, vfill, vbsl, eqCells, eqCell, veqs, veqs1, vmnx, AV.isCell, AV.isUndef, Nat.reduceEqDiff, Nat.reduceAdd, Nat.reduceSub, Nat.reduceLeDiff, Nat.reduceLT, reduceIte, reduceCtorEq, Nat.reduceBEq]) | (simp (disch := first | assumption | omega | exact Seg.len _ | exact Vec.len _ | exact Leg.len _ | exact num_len _ | exact rowA_len _ | exact rowA_len | exact rowT_len _ | exact rowT_len | exact Seg.len | exact Vec.len | exact Leg.len | exact num_len | exact AV.slen _ _ | rfl) only [vP]) | (with_reducible (first | refine gsnd (fun _ => ?_) (fun _ => ?_) | refine csnd (fun _ => ?_) (fun _ => ?_) | refine gsd (fun _ => ?_) (fun _ => ?_) | refine csd (fun _ => ?_) (fun _ => ?_) | refine gsn (fun _ => ?_) (fun _ => ?_) | refine csn (fun _ => ?_) (fun _ => ?_))) | (with_reducible refine gs (fun _ => ?_) (fun _ => ?_)) | (with_reducible refine cs_ (fun _ => ?_) (fun _ => ?_)) | (with_reducible refine objQ_i (fun _ _ => ?_); (repeat (with_reducible refine imp_i (fun _ => ?_)))) | ((try with_reducible refine appK_a ?_); first | (with_reducible refine appD_F (by refine ⟨?_, ?_, ?_, ?_⟩ <;> (first | assumption | omega | exact St.has_add (by assumption) | (simp only [ins_has]; exact St.has_add (by assumption)) | (simp only [ins_has, fresh_ins, kill_ins, add_ins] at *; exact St.has_add (by assumption)) | (simp only [*, ins_has, has_full, St.has_add]; done) | (simp [-List.map_take, -List.map_drop, or_imp, forall_and, Seg.a, Vec.a, Leg.a, num, okEl, cells_agg, cells_int, cells_sl, cells_bool, AV.isCell]; done) | (simp; omega))) (fun _ _ => ?_)) | (with_reducible refine appD_V (by refine ⟨?_, ?_, ?_, ?_, ?_⟩ <;> (first | assumption | omega | exact St.has_add (by assumption) | (simp only [ins_has]; exact St.has_add (by assumption)) | (simp only [ins_has, fresh_ins, kill_ins, add_ins] at *; exact St.has_add (by assumption)) | (simp only [*, ins_has, has_full, St.has_add]; done) | (simp [-List.map_take, -List.map_drop, or_imp, forall_and, Seg.a, Vec.a, Leg.a, num, okEl, cells_agg, cells_int, cells_sl, cells_bool, AV.isCell]; done) | (simp; omega))) (fun _ _ => ?_))) | (with_reducible refine freshQ_i (fun _ _ => ?_)) | (with_reducible refine nilQ_i (fun _ _ => ?_))))
def greatF (f : List Seg) (w : Vec) (l : List Leg) : Bool := decide (60 < f.length) || decide (30 < l.length) || (decide (w.m < w.c) && decide (150 < wr (w.c - w.m)) && decide (wr (w.c - w.m) ≤ 4096))
theorem great_16 (f : List Seg) (hf : (f.length : Int) ≤ 9223372036854775807) (w : Vec) (l : List Leg) (hl : (l.length : Int) ≤ 9223372036854775807) (t t' : Tok) :
    VPure Try.prog 40 [.sl (f.map Seg.a) t, .agg [.int .i64 w.m, .int .i64 w.c], .sl (l.map Leg.a) t'] (.bool (greatF f w l)) := by
  refine VPure.of v_liverylaw16_great_ok (Nat.le_of_ble_eq_true rfl) (fun Z st => ?_)
  obtain ⟨d, hd⟩ : ∃ d, IntKind.i64.wrap (w.c - w.m) = d := ⟨_, rfl⟩
  have HG : Hid (greatF f w l = (decide (60 < f.length) || decide (30 < l.length) || (decide (w.m < w.c) && decide (150 < d) && decide (d ≤ 4096)))) := ⟨by unfold greatF wr; rw [hd]⟩
  rw [HG.out]
  simp only [v_liverylaw16_great, ↓vD, vU, VE.ev, VE.evs, retvs, tupOf, grab, vfill, vbsl, eqCells, eqCell, veqs, veqs1, vmnx, AV.isCell, AV.isUndef, Nat.reduceEqDiff, Nat.reduceAdd, Nat.reduceSub, Nat.reduceLeDiff, Nat.reduceLT, reduceIte, reduceCtorEq, Nat.reduceBEq, k_app, k_slc1]
  (repeat' (first | (simp (config := { maxDischargeDepth := 16 }) only [*, vX, Int.reduceLE, Int.reduceLT, Int.reduceGE, Int.reduceGT, Int.reduceBEq, Int.reduceBNe, Int.reduceAdd, Int.reduceSub, Int.reduceMul, Int.reduceNeg, ↓vD, vU, VE.ev, VE.evs, retvs, tupOf, grab, vfill, vbsl, eqCells, eqCell, veqs, veqs1, vmnx, AV.isCell, AV.isUndef, Nat.reduceEqDiff, Nat.reduceAdd, Nat.reduceSub, Nat.reduceLeDiff, Nat.reduceLT, reduceIte, reduceCtorEq, Nat.reduceBEq]) | (simp (disch := first | assumption | omega | exact Seg.len _ | exact Vec.len _ | exact Leg.len _ | exact num_len _ | exact rowA_len _ | exact rowA_len | exact rowT_len _ | exact rowT_len | exact Seg.len | exact Vec.len | exact Leg.len | exact num_len | exact AV.slen _ _ | rfl) only [vP]) | (with_reducible (first | refine gsnd (fun _ => ?_) (fun _ => ?_) | refine csnd (fun _ => ?_) (fun _ => ?_) | refine gsd (fun _ => ?_) (fun _ => ?_) | refine csd (fun _ => ?_) (fun _ => ?_) | refine gsn (fun _ => ?_) (fun _ => ?_) | refine csn (fun _ => ?_) (fun _ => ?_))) | (with_reducible refine gs (fun _ => ?_) (fun _ => ?_)) | (with_reducible refine cs_ (fun _ => ?_) (fun _ => ?_)) | (with_reducible refine objQ_i (fun _ _ => ?_); (repeat (with_reducible refine imp_i (fun _ => ?_)))) | ((try with_reducible refine appK_a ?_); first | (with_reducible refine appD_F (by refine ⟨?_, ?_, ?_, ?_⟩ <;> (first | assumption | omega | exact St.has_add (by assumption) | (simp only [ins_has]; exact St.has_add (by assumption)) | (simp only [ins_has, fresh_ins, kill_ins, add_ins] at *; exact St.has_add (by assumption)) | (simp only [*, ins_has, has_full, St.has_add]; done) | (simp [-List.map_take, -List.map_drop, or_imp, forall_and, Seg.a, Vec.a, Leg.a, num, okEl, cells_agg, cells_int, cells_sl, cells_bool, AV.isCell]; done) | (simp; omega))) (fun _ _ => ?_)) | (with_reducible refine appD_V (by refine ⟨?_, ?_, ?_, ?_, ?_⟩ <;> (first | assumption | omega | exact St.has_add (by assumption) | (simp only [ins_has]; exact St.has_add (by assumption)) | (simp only [ins_has, fresh_ins, kill_ins, add_ins] at *; exact St.has_add (by assumption)) | (simp only [*, ins_has, has_full, St.has_add]; done) | (simp [-List.map_take, -List.map_drop, or_imp, forall_and, Seg.a, Vec.a, Leg.a, num, okEl, cells_agg, cells_int, cells_sl, cells_bool, AV.isCell]; done) | (simp; omega))) (fun _ _ => ?_))) | (with_reducible refine freshQ_i (fun _ _ => ?_)) | (with_reducible refine nilQ_i (fun _ _ => ?_))))
  (all_goals (first | rfl | (simp_all; done) | (simp_all <;> omega)))
def fH : List Seg := [⟨0, ⟨5, 5⟩⟩, ⟨10, ⟨2, 2⟩⟩, ⟨12, ⟨5, 5⟩⟩, ⟨20, ⟨0, 0⟩⟩]
def lH : List Leg := [⟨4, ⟨3, 3⟩⟩]
def mH : List Leg := [⟨4, ⟨3, 3⟩⟩, ⟨2, ⟨1, 1⟩⟩]
theorem b1H : beginsF fH ⟨0, 30⟩ lH = ([⟨0, 7⟩, ⟨12, 17⟩], 0) := by decide
theorem b2H : beginsF fH ⟨7, 30⟩ lH = ([⟨12, 17⟩], 0) := by decide
theorem b3H : beginsF fH ⟨0, 30⟩ mH = ([⟨0, 7⟩, ⟨12, 15⟩], 0) := by decide
theorem b4H : beginsF fH ⟨7, 15⟩ lH = ([], 0) := by decide
theorem b5H : beginsF fH ⟨7, 7⟩ lH = ([], 2) := by decide
theorem l1H : lengthF mH = (6, 0) := by decide
theorem head_16 : VPure Try.prog 41 [] (.bool true) := by
  have a1 := Begins_c fH (by simp [fH]) ⟨0, 30⟩ (by simp) (by simp) lH (by simp [lH]) .full .full
  have a2 := Earliest_c fH (by simp [fH]) ⟨0, 30⟩ (by simp) (by simp) lH (by simp [lH]) .full .full
  have a3 := Latest_c fH (by simp [fH]) ⟨0, 30⟩ (by simp) (by simp) lH (by simp [lH]) .full .full
  have a4 := Earliest_c fH (by simp [fH]) ⟨7, 30⟩ (by simp) (by simp) lH (by simp [lH]) .full .full
  have a5 := Begins_c fH (by simp [fH]) ⟨0, 30⟩ (by simp) (by simp) mH (by simp [mH]) .full .full
  have a6 := Length_v mH (by simp [mH]) .full
  have a7 := Earliest_c fH (by simp [fH]) ⟨7, 15⟩ (by simp) (by simp) lH (by simp [lH]) .full .full
  have a8 := Earliest_c fH (by simp [fH]) ⟨7, 7⟩ (by simp) (by simp) lH (by simp [lH]) .full .full
  have s1 := Same_16 [⟨0, 7⟩, ⟨12, 17⟩] [⟨0, 7⟩, ⟨12, 17⟩] (by simp) .no .full
  have s2 := Same_16 [⟨0, 7⟩, ⟨12, 15⟩] [⟨0, 7⟩, ⟨12, 15⟩] (by simp) .no .full
  simp only [beq_self_eq_true] at s1 s2
  rw [b1H] at a1 a2 a3
  rw [b2H] at a4
  rw [b3H] at a5
  rw [l1H] at a6
  rw [b4H] at a7
  rw [b5H] at a8
  simp [askF] at a2 a3 a4 a7 a8
  simp only [fH, lH, mH, List.map_cons, List.map_nil, Seg.a, Leg.a, Vec.a, num] at a1 a2 a3 a4 a5 a6 a7 a8 s1 s2
  refine VPure.of v_liverylaw16_head_ok (Nat.le_of_ble_eq_true rfl) (fun Z st => ?_)
  simp only [v_liverylaw16_head, ↓vD, vU, VE.ev, VE.evs, retvs, tupOf, grab, vfill, vbsl, eqCells, eqCell, veqs, veqs1, vmnx, AV.isCell, AV.isUndef, Nat.reduceEqDiff, Nat.reduceAdd, Nat.reduceSub, Nat.reduceLeDiff, Nat.reduceLT, reduceIte, reduceCtorEq, Nat.reduceBEq, k_app, k_slc1]
  (repeat' (first | (simp (config := { maxDischargeDepth := 16 }) only [*, vX, Int.reduceLE, Int.reduceLT, Int.reduceGE, Int.reduceGT, Int.reduceBEq, Int.reduceBNe, Int.reduceAdd, Int.reduceSub, Int.reduceMul, Int.reduceNeg, ↓vD, vU, VE.ev, VE.evs, retvs, tupOf, grab, vfill, vbsl, eqCells, eqCell, veqs, veqs1, vmnx, AV.isCell, AV.isUndef, Nat.reduceEqDiff, Nat.reduceAdd, Nat.reduceSub, Nat.reduceLeDiff, Nat.reduceLT, reduceIte, reduceCtorEq, Nat.reduceBEq]) | (simp (disch := first | assumption | omega | exact Seg.len _ | exact Vec.len _ | exact Leg.len _ | exact num_len _ | exact rowA_len _ | exact rowA_len | exact rowT_len _ | exact rowT_len | exact Seg.len | exact Vec.len | exact Leg.len | exact num_len | exact AV.slen _ _ | rfl) only [vP]) | (with_reducible (first | refine gsnd (fun _ => ?_) (fun _ => ?_) | refine csnd (fun _ => ?_) (fun _ => ?_) | refine gsd (fun _ => ?_) (fun _ => ?_) | refine csd (fun _ => ?_) (fun _ => ?_) | refine gsn (fun _ => ?_) (fun _ => ?_) | refine csn (fun _ => ?_) (fun _ => ?_))) | (with_reducible refine gs (fun _ => ?_) (fun _ => ?_)) | (with_reducible refine cs_ (fun _ => ?_) (fun _ => ?_)) | (with_reducible refine objQ_i (fun _ _ => ?_); (repeat (with_reducible refine imp_i (fun _ => ?_)))) | ((try with_reducible refine appK_a ?_); first | (with_reducible refine appD_F (by refine ⟨?_, ?_, ?_, ?_⟩ <;> (first | assumption | omega | exact St.has_add (by assumption) | (simp only [ins_has]; exact St.has_add (by assumption)) | (simp only [ins_has, fresh_ins, kill_ins, add_ins] at *; exact St.has_add (by assumption)) | (simp only [*, ins_has, has_full, St.has_add]; done) | (simp [-List.map_take, -List.map_drop, or_imp, forall_and, Seg.a, Vec.a, Leg.a, num, okEl, cells_agg, cells_int, cells_sl, cells_bool, AV.isCell]; done) | (simp; omega))) (fun _ _ => ?_)) | (with_reducible refine appD_V (by refine ⟨?_, ?_, ?_, ?_, ?_⟩ <;> (first | assumption | omega | exact St.has_add (by assumption) | (simp only [ins_has]; exact St.has_add (by assumption)) | (simp only [ins_has, fresh_ins, kill_ins, add_ins] at *; exact St.has_add (by assumption)) | (simp only [*, ins_has, has_full, St.has_add]; done) | (simp [-List.map_take, -List.map_drop, or_imp, forall_and, Seg.a, Vec.a, Leg.a, num, okEl, cells_agg, cells_int, cells_sl, cells_bool, AV.isCell]; done) | (simp; omega))) (fun _ _ => ?_))) | (with_reducible refine freshQ_i (fun _ _ => ?_)) | (with_reducible refine nilQ_i (fun _ _ => ?_)) | (with_reducible first | refine callH_use (v_16 _) ?_ | refine pureQ_use (v_16 _) ?_) | (with_reducible first | refine callH_use (a1) ?_ | refine pureQ_use (a1) ?_) | (with_reducible first | refine callH_use (a2) ?_ | refine pureQ_use (a2) ?_) | (with_reducible first | refine callH_use (a3) ?_ | refine pureQ_use (a3) ?_) | (with_reducible first | refine callH_use (a4) ?_ | refine pureQ_use (a4) ?_) | (with_reducible first | refine callH_use (a5) ?_ | refine pureQ_use (a5) ?_) | (with_reducible first | refine callH_use (a6) ?_ | refine pureQ_use (a6) ?_) | (with_reducible first | refine callH_use (a7) ?_ | refine pureQ_use (a7) ?_) | (with_reducible first | refine callH_use (a8) ?_ | refine pureQ_use (a8) ?_) | (with_reducible first | refine callH_use (s1) ?_ | refine pureQ_use (s1) ?_) | (with_reducible first | refine callH_use (s2) ?_ | refine pureQ_use (s2) ?_)))
end Go.Proofs.Ytddbnncimggogaa.V
end
section
set_option linter.unusedSimpArgs false
set_option linter.unusedVariables false
/- What is handed in, as V's values: structs and arrays of any parts. -/
namespace Go.Proofs.Ytddbnncimggogaa.V
open Go Go.ChangeShapes Go.WideShapes Go.ChangeAt Go.RowKit Go.Deep
set_option maxRecDepth 100000
/-- Cells of a type, wherever they lie. -/
def OpC (t : TypeId) (sz : Nat) (R : List AV → Prop) : Prop :=
  ∀ {H : Type} {enc : TypeId × Value → H} {w : World} {base : Nat} {spare : Nat → Bool} {held : Bool} {fuel : Nat} {cs : List Value} {x : DataW H × List MemPlace}, DataW.trod enc Try.prog w base spare held fuel t cs = some x →
    ∃ l : List AV, RepL (imW w) l cs ∧ l.length = sz ∧ l.all AV.isCell = true ∧ R l
theorem OpC.mono {t : TypeId} {sz : Nat} {R R' : List AV → Prop} (h : OpC t sz R) (hr : ∀ l, R l → R' l) : OpC t sz R' := fun hx => by
  obtain ⟨l, h1, h2, h3, h4⟩ := h hx
  exact ⟨l, h1, h2, h3, hr l h4⟩
theorem opn_of {α : Type} {t : TypeId} {sz : Nat} {f : α → AV} {wf : α → Prop} (h : OpC t sz (fun l => ∃ v, l = (f v).cells ∧ wf v)) : Opn t sz f wf := fun hx => by
  obtain ⟨l, h1, h2, h3, v, rfl, h4⟩ := h hx
  exact ⟨v, h1, by simp [okEl, h2, h3], h4⟩
theorem opc_of {α : Type} {t : TypeId} {sz : Nat} {f : α → AV} {wf : α → Prop} (h : Opn t sz f wf) : OpC t sz (fun l => ∃ v, l = (f v).cells ∧ wf v) := fun hx => by
  obtain ⟨v, h1, h2, h3⟩ := h hx
  simp only [okEl, Bool.and_eq_true, beq_iff_eq] at h2
  exact ⟨_, h1, h2.1, h2.2, v, rfl, h3⟩
theorem opc_int {t : TypeId} {k : IntKind} (ht : Try.prog.underlying t = some (.int k)) : OpC t 1 (fun l => ∃ n, l = [.int k n] ∧ (Lit.int k n).wf = true) := by
  intro H enc w base spare held fuel cs x h
  obtain ⟨a, rfl, _, wa⟩ := DataW.trod_int ht h
  exact ⟨[.int k a], by simp [RepL, Rep], rfl, rfl, a, rfl, wa⟩
def tot : List (Nat × (List AV → Prop)) → Nat
  | [] => 0
  | (n, _) :: r => n + tot r
def AllC : List (Nat × (List AV → Prop)) → List AV → Prop
  | [], l => l = []
  | (_, R) :: r, l => ∃ a b, l = a ++ b ∧ R a ∧ AllC r b
def Parts (w : World) (cs : List Value) : Nat → List (Nat × (List AV → Prop)) → Prop
  | _, [] => True
  | o, (n, R) :: r => (∃ a : List AV, RepL (imW w) a ((cs.drop o).take n) ∧ a.length = n ∧ a.all AV.isCell = true ∧ R a) ∧ Parts w cs (o + n) r
theorem glue {w : World} {cs : List Value} : ∀ {ps : List (Nat × (List AV → Prop))} {o : Nat}, Parts w cs o ps → ∃ l : List AV, RepL (imW w) l ((cs.drop o).take (tot ps)) ∧ l.length = tot ps ∧ l.all AV.isCell = true ∧ AllC ps l
  | [], o, _ => ⟨[], by simp [tot, RepL], rfl, rfl, rfl⟩
  | (n, R) :: r, o, ⟨⟨a, h1, h2, h3, h4⟩, h⟩ => by
    obtain ⟨b, k1, k2, k3, k4⟩ := glue h
    refine ⟨a ++ b, ?_, by simp [h2, k2, tot], by simp only [List.all_append, h3, k3, Bool.and_self], a, b, rfl, h4, k4⟩
    simp only [tot]
    rw [List.take_add, List.drop_drop]
    exact h1.append k1
/-- The fields of a struct, one behind the other. -/
def SeqC : List Field → Nat → List (Nat × (List AV → Prop)) → Prop
  | [], _, [] => True
  | f :: fs, o, (n, R) :: r => (f.offset = o ∧ Try.prog.cellsOf f.type = n ∧ OpC f.type n R) ∧ SeqC fs (o + n) r
  | _, _, _ => False
theorem opc_struct {t : TypeId} {fs : Array Field} {ps : List (Nat × (List AV → Prop))} (ht : Try.prog.underlying t = some (.struct fs)) (hsz : Try.prog.cellsOf t = tot ps) (hs : SeqC fs.toList 0 ps) : OpC t (tot ps) (AllC ps) := by
  intro H enc w base spare held fuel cs x h
  obtain ⟨xs, n, _, rfl, hl, hlen, hf⟩ := DataW.trod_struct ht h
  have key : ∀ (fl : List Field) (o : Nat) (ps : List (Nat × (List AV → Prop))), (∀ f ∈ fl, ∃ y, DataW.trod enc Try.prog w base spare held n f.type ((cs.drop f.offset).take (Try.prog.cellsOf f.type)) = some y) → SeqC fl o ps → Parts w cs o ps := by
    intro fl
    induction fl with
    | nil =>
      intro o ps _ hs
      cases ps with
      | nil => trivial
      | cons p r => exact hs.elim
    | cons f fl ih =>
      intro o ps hy hs
      match ps, hs with
      | (m, R) :: r, ⟨⟨e1, e2, h3⟩, h4⟩ =>
        obtain ⟨y, hy1⟩ := hy f (by simp)
        rw [e1, e2] at hy1
        exact ⟨h3 hy1, ih _ _ (fun g hg => hy g (by simp [hg])) h4⟩
  have hp := key fs.toList 0 ps (fun f hfm => by
    obtain ⟨i, hi, rfl⟩ := List.getElem_of_mem hfm
    have hi2 : i < fs.size := by simpa using hi
    have := hf i fs[i] (by simp [hi2])
    rw [List.getElem?_eq_getElem (by omega)] at this
    exact ⟨_, by simpa using this⟩) hs
  obtain ⟨l, k1, k2, k3, k4⟩ := glue hp
  refine ⟨l, ?_, k2, k3, k4⟩
  rw [List.drop_zero, List.take_of_length_le (by omega)] at k1
  exact k1
/-- A struct that is handed in. -/
theorem open_agg {α : Type} {t : TypeId} {sz : Nat} {g : α → List AV} {wf : α → Prop} {fs : Array Field} (ht : Try.prog.underlying t = some (.struct fs)) (hO : Opn t sz (fun x => .agg (g x)) wf)
    {H : Type} {enc : TypeId × Value → H} {w : World} {base base' : Nat} {spare : Nat → Bool} {held : Bool} {v : Value} {d : DataW H} {ps : List MemPlace} {r : Reach} (hval : Value.okWide Try.prog w r base' t v) (h : DataW.Trod enc Try.prog w base spare held t v d ps) :
    ∃ x : α, Rep (imW w) (.agg (g x)) v ∧ wf x := by
  simp only [Value.okWide, ht] at hval
  obtain ⟨cs, rfl, hsz, _⟩ := hval
  obtain ⟨fuel, hf⟩ := h
  obtain ⟨x, h1, _, h3⟩ := hO hf
  exact ⟨x, by simp only [Rep]; exact ⟨cs, rfl, h1⟩, h3⟩
/-! The structs of times and resources. -/
def wfLeg (x : Leg) : Prop := I64 x.d ∧ wfVec x.v
theorem opc_i64 : OpC 2 1 (fun l => ∃ n, l = [.int .i64 n] ∧ I64 n) := OpC.mono (opc_int (by kernel_rfl)) (by rintro l ⟨n, rfl, h⟩; exact ⟨n, rfl, i64_of h⟩)
theorem opn_win : Opn 60 2 Vec.a wfVec :=
  opn_of (OpC.mono (opc_struct (ps := [(1, _), (1, _)]) Try.underlying60 (by kernel_rfl) ⟨⟨rfl, by kernel_rfl, opc_i64⟩, ⟨rfl, by kernel_rfl, opc_i64⟩, trivial⟩) (by
    rintro l ⟨_, _, rfl, ⟨a, rfl, ha⟩, _, _, rfl, ⟨b, rfl, hb⟩, rfl⟩
    exact ⟨⟨a, b⟩, rfl, ha, hb⟩))
theorem opn_leg : Opn 70 3 Leg.a wfLeg :=
  opn_of (OpC.mono (opc_struct (ps := [(1, _), (2, _)]) Try.underlying70 (by kernel_rfl) ⟨⟨rfl, by kernel_rfl, opc_i64⟩, ⟨rfl, by kernel_rfl, opc_of opn_vec⟩, trivial⟩) (by
    rintro l ⟨_, _, rfl, ⟨a, rfl, ha⟩, _, _, rfl, ⟨b, rfl, hb⟩, rfl⟩
    exact ⟨⟨a, b⟩, rfl, ha, hb⟩))
theorem open_win {H : Type} {enc : TypeId × Value → H} {w : World} {base base' : Nat} {spare : Nat → Bool} {held : Bool} {v : Value} {d : DataW H} {ps : List MemPlace} {r : Reach} (hval : Value.okWide Try.prog w r base' 60 v) (h : DataW.Trod enc Try.prog w base spare held 60 v d ps) :
    ∃ x : Vec, Rep (imW w) x.a v ∧ wfVec x := open_agg (g := fun x : Vec => [.int .i64 x.m, .int .i64 x.c]) Try.underlying60 opn_win hval h
end Go.Proofs.Ytddbnncimggogaa.V
end
section
set_option linter.unusedSimpArgs false
set_option linter.unusedVariables false
/- SlotCut, walked. -/
namespace Go.Proofs.Ytddbnncimggogaa.V
open Go Go.Proofs
set_option maxRecDepth 100000
set_option maxHeartbeats 4000000
/-- A window, legs, two numbers of a byte. -/
structure RowX where
  w : Vec
  l : List Leg
  b0 : Int
  b1 : Int
  deriving Inhabited
def RowX.a (x : RowX) : AV := .agg [.int .i64 x.w.m, .int .i64 x.w.c, .sl (x.l.map Leg.a) .no, .int .u8 x.b0, .int .u8 x.b1]
end Go.Proofs.Ytddbnncimggogaa.V
end
section
set_option linter.unusedSimpArgs false
set_option linter.unusedVariables false
/- SlotFits, walked. -/
namespace Go.Proofs.Ytddbnncimggogaa.V
open Go Go.Proofs
set_option maxRecDepth 100000
set_option maxHeartbeats 4000000
theorem slotFits_v (f : List Seg) (_ : ∀ x ∈ f, wfSeg x) (hf : (f.length : Int) ≤ 9223372036854775807) (w : Vec) (hw : wfVec w) (l : List Leg) (_ : ∀ y ∈ l, wfLeg y) (hl : (l.length : Int) ≤ 9223372036854775807) :
    VPure Try.prog 12 [.sl (f.map Seg.a) .no, w.a, .sl (l.map Leg.a) .no] (.bool true) := by
  obtain ⟨⟨w1, w2⟩, w3, w4⟩ := hw
  have hg := great_16 f hf w l hl .no .no
  refine VPure.of v_liverylaw16_SlotFits_ok (Nat.le_of_ble_eq_true rfl) (fun Z st => ?_)
  by_cases hgr : greatF f w l = true
  · rw [hgr] at hg
    clear hgr
    simp only [v_liverylaw16_SlotFits, ↓vD, vU, VE.ev, VE.evs, retvs, tupOf, grab, vfill, vbsl, eqCells, eqCell, veqs, veqs1, vmnx, AV.isCell, AV.isUndef, Nat.reduceEqDiff, Nat.reduceAdd, Nat.reduceSub, Nat.reduceLeDiff, Nat.reduceLT, reduceIte, reduceCtorEq, Nat.reduceBEq, k_app, k_slc1]
    (repeat' (first | (simp (config := { maxDischargeDepth := 16 }) only [*, Vec.a, vX, Int.reduceLE, Int.reduceLT, Int.reduceGE, Int.reduceGT, Int.reduceBEq, Int.reduceBNe, Int.reduceAdd, Int.reduceSub, Int.reduceMul, Int.reduceNeg, ↓vD, vU, VE.ev, VE.evs, retvs, tupOf, grab, vfill, vbsl, eqCells, eqCell, veqs, veqs1, vmnx, AV.isCell, AV.isUndef, Nat.reduceEqDiff, Nat.reduceAdd, Nat.reduceSub, Nat.reduceLeDiff, Nat.reduceLT, reduceIte, reduceCtorEq, Nat.reduceBEq]) | (simp (disch := first | assumption | omega | exact Seg.len _ | exact Vec.len _ | exact Leg.len _ | exact num_len _ | exact rowA_len _ | exact rowA_len | exact rowT_len _ | exact rowT_len | exact Seg.len | exact Vec.len | exact Leg.len | exact num_len | exact AV.slen _ _ | rfl) only [Vec.a, vP]) | (with_reducible (first | refine gsnd (fun _ => ?_) (fun _ => ?_) | refine csnd (fun _ => ?_) (fun _ => ?_) | refine gsd (fun _ => ?_) (fun _ => ?_) | refine csd (fun _ => ?_) (fun _ => ?_) | refine gsn (fun _ => ?_) (fun _ => ?_) | refine csn (fun _ => ?_) (fun _ => ?_))) | (with_reducible refine gs (fun _ => ?_) (fun _ => ?_)) | (with_reducible refine cs_ (fun _ => ?_) (fun _ => ?_)) | (with_reducible refine objQ_i (fun _ _ => ?_); (repeat (with_reducible refine imp_i (fun _ => ?_)))) | ((try with_reducible refine appK_a ?_); first | (with_reducible refine appD_F (by refine ⟨?_, ?_, ?_, ?_⟩ <;> (first | assumption | omega | exact St.has_add (by assumption) | (simp only [ins_has]; exact St.has_add (by assumption)) | (simp only [ins_has, fresh_ins, kill_ins, add_ins] at *; exact St.has_add (by assumption)) | (simp only [*, ins_has, has_full, St.has_add]; done) | (simp [-List.map_take, -List.map_drop, or_imp, forall_and, Seg.a, Vec.a, Leg.a, num, okEl, cells_agg, cells_int, cells_sl, cells_bool, AV.isCell]; done) | (simp; omega))) (fun _ _ => ?_)) | (with_reducible refine appD_V (by refine ⟨?_, ?_, ?_, ?_, ?_⟩ <;> (first | assumption | omega | exact St.has_add (by assumption) | (simp only [ins_has]; exact St.has_add (by assumption)) | (simp only [ins_has, fresh_ins, kill_ins, add_ins] at *; exact St.has_add (by assumption)) | (simp only [*, ins_has, has_full, St.has_add]; done) | (simp [-List.map_take, -List.map_drop, or_imp, forall_and, Seg.a, Vec.a, Leg.a, num, okEl, cells_agg, cells_int, cells_sl, cells_bool, AV.isCell]; done) | (simp; omega))) (fun _ _ => ?_))) | (with_reducible refine freshQ_i (fun _ _ => ?_)) | (with_reducible refine nilQ_i (fun _ _ => ?_)) | (with_reducible first | refine callH_use (hg) ?_ | refine pureQ_use (hg) ?_) | (with_reducible first | refine callH_use (head_16) ?_ | refine pureQ_use (head_16) ?_)))
  have hgf : greatF f w l = false := by simpa using hgr
  rw [hgf] at hg
  have hlim : f.length ≤ 60 ∧ l.length ≤ 30 := by
    unfold greatF at hgf
    simp only [Bool.or_eq_false_iff, decide_eq_false_iff_not] at hgf
    omega
  clear hgr hgf hf hl
  obtain ⟨hf60, hl30⟩ := hlim
  have hB := Begins_c f (by omega) w w1 w4 l (by omega) .no .no
  by_cases he : (beginsF f w l).2 = 0
  case neg =>
    have hnil : (beginsF f w l).1 = [] := by unfold beginsF at he ⊢; split; rfl; rename_i h; rw [if_neg h] at he; exact absurd rfl he
    rw [hnil] at hB
    obtain ⟨B, hBe⟩ : ∃ B, beginsF f w l = B := ⟨_, rfl⟩
    rw [hBe] at hB he
    unfold num at hB
    clear hBe hnil
    simp only [v_liverylaw16_SlotFits, ↓vD, vU, VE.ev, VE.evs, retvs, tupOf, grab, vfill, vbsl, eqCells, eqCell, veqs, veqs1, vmnx, AV.isCell, AV.isUndef, Nat.reduceEqDiff, Nat.reduceAdd, Nat.reduceSub, Nat.reduceLeDiff, Nat.reduceLT, reduceIte, reduceCtorEq, Nat.reduceBEq, k_app, k_slc1]
    (repeat' (first | (simp (config := { maxDischargeDepth := 16 }) only [*, Vec.a, List.map_nil, List.length_nil, vX, Int.reduceLE, Int.reduceLT, Int.reduceGE, Int.reduceGT, Int.reduceBEq, Int.reduceBNe, Int.reduceAdd, Int.reduceSub, Int.reduceMul, Int.reduceNeg, ↓vD, vU, VE.ev, VE.evs, retvs, tupOf, grab, vfill, vbsl, eqCells, eqCell, veqs, veqs1, vmnx, AV.isCell, AV.isUndef, Nat.reduceEqDiff, Nat.reduceAdd, Nat.reduceSub, Nat.reduceLeDiff, Nat.reduceLT, reduceIte, reduceCtorEq, Nat.reduceBEq]) | (simp (disch := first | assumption | omega | exact Seg.len _ | exact Vec.len _ | exact Leg.len _ | exact num_len _ | exact rowA_len _ | exact rowA_len | exact rowT_len _ | exact rowT_len | exact Seg.len | exact Vec.len | exact Leg.len | exact num_len | exact AV.slen _ _ | rfl) only [Vec.a, List.map_nil, List.length_nil, vP]) | (with_reducible (first | refine gsnd (fun _ => ?_) (fun _ => ?_) | refine csnd (fun _ => ?_) (fun _ => ?_) | refine gsd (fun _ => ?_) (fun _ => ?_) | refine csd (fun _ => ?_) (fun _ => ?_) | refine gsn (fun _ => ?_) (fun _ => ?_) | refine csn (fun _ => ?_) (fun _ => ?_))) | (with_reducible refine gs (fun _ => ?_) (fun _ => ?_)) | (with_reducible refine cs_ (fun _ => ?_) (fun _ => ?_)) | (with_reducible refine objQ_i (fun _ _ => ?_); (repeat (with_reducible refine imp_i (fun _ => ?_)))) | ((try with_reducible refine appK_a ?_); first | (with_reducible refine appD_F (by refine ⟨?_, ?_, ?_, ?_⟩ <;> (first | assumption | omega | exact St.has_add (by assumption) | (simp only [ins_has]; exact St.has_add (by assumption)) | (simp only [ins_has, fresh_ins, kill_ins, add_ins] at *; exact St.has_add (by assumption)) | (simp only [*, ins_has, has_full, St.has_add]; done) | (simp [-List.map_take, -List.map_drop, or_imp, forall_and, Seg.a, Vec.a, Leg.a, num, okEl, cells_agg, cells_int, cells_sl, cells_bool, AV.isCell]; done) | (simp; omega))) (fun _ _ => ?_)) | (with_reducible refine appD_V (by refine ⟨?_, ?_, ?_, ?_, ?_⟩ <;> (first | assumption | omega | exact St.has_add (by assumption) | (simp only [ins_has]; exact St.has_add (by assumption)) | (simp only [ins_has, fresh_ins, kill_ins, add_ins] at *; exact St.has_add (by assumption)) | (simp only [*, ins_has, has_full, St.has_add]; done) | (simp [-List.map_take, -List.map_drop, or_imp, forall_and, Seg.a, Vec.a, Leg.a, num, okEl, cells_agg, cells_int, cells_sl, cells_bool, AV.isCell]; done) | (simp; omega))) (fun _ _ => ?_))) | (with_reducible refine freshQ_i (fun _ _ => ?_)) | (with_reducible refine nilQ_i (fun _ _ => ?_)) | (with_reducible first | refine callH_use (hg) ?_ | refine pureQ_use (hg) ?_) | (with_reducible first | refine callH_use (head_16) ?_ | refine pureQ_use (head_16) ?_) | (with_reducible first | refine callH_use (hB) ?_ | refine pureQ_use (hB) ?_)))
  have hO : OkB f w l := check_ok.1 (by rw [← begins_err]; exact he)
  have hrow := (begins_is hO).1
  have hto := begins_to hO
  have hlaw := fits_law hO
  have hlen := (beginsF_len f w l).1
  have hpos := hO.pos
  have hwin := hO.win
  have h3' := hO.from_
  have h4' := hO.to_
  have hsp := hO.span
  simp only [farF, Bool.or_eq_false_iff, decide_eq_false_iff_not] at h3' h4'
  rw [he] at hB
  obtain ⟨A, hA⟩ : ∃ A, (beginsF f w l).1 = A := ⟨_, rfl⟩
  rw [hA] at hB hrow hto hlaw hlen
  have hfit := fun n d v => Fits_c f (by omega) n d v .no
  unfold num at hB
  simp only [num, Vec.a] at hfit
  have HR := Hid.mk hrow
  have HT := Hid.mk hto
  have HL := Hid.mk hlaw
  have HP := Hid.mk hpos
  obtain ⟨p1, p2⟩ := h3'
  obtain ⟨p3, p4⟩ := h4'
  clear hrow hto hlaw hpos hO he hA
  simp only [v_liverylaw16_SlotFits, ↓vD, vU, VE.ev, VE.evs, retvs, tupOf, grab, vfill, vbsl, eqCells, eqCell, veqs, veqs1, vmnx, AV.isCell, AV.isUndef, Nat.reduceEqDiff, Nat.reduceAdd, Nat.reduceSub, Nat.reduceLeDiff, Nat.reduceLT, reduceIte, reduceCtorEq, Nat.reduceBEq, k_app, k_slc1]
  (repeat' (first | (simp (config := { maxDischargeDepth := 16 }) only [*, Vec.a, vX, Int.reduceLE, Int.reduceLT, Int.reduceGE, Int.reduceGT, Int.reduceBEq, Int.reduceBNe, Int.reduceAdd, Int.reduceSub, Int.reduceMul, Int.reduceNeg, ↓vD, vU, VE.ev, VE.evs, retvs, tupOf, grab, vfill, vbsl, eqCells, eqCell, veqs, veqs1, vmnx, AV.isCell, AV.isUndef, Nat.reduceEqDiff, Nat.reduceAdd, Nat.reduceSub, Nat.reduceLeDiff, Nat.reduceLT, reduceIte, reduceCtorEq, Nat.reduceBEq]) | (simp (disch := first | assumption | omega | exact Seg.len _ | exact Vec.len _ | exact Leg.len _ | exact num_len _ | exact rowA_len _ | exact rowA_len | exact rowT_len _ | exact rowT_len | exact Seg.len | exact Vec.len | exact Leg.len | exact num_len | exact AV.slen _ _ | rfl) only [Vec.a, vP]) | (with_reducible (first | refine gsnd (fun _ => ?_) (fun _ => ?_) | refine csnd (fun _ => ?_) (fun _ => ?_) | refine gsd (fun _ => ?_) (fun _ => ?_) | refine csd (fun _ => ?_) (fun _ => ?_) | refine gsn (fun _ => ?_) (fun _ => ?_) | refine csn (fun _ => ?_) (fun _ => ?_))) | (with_reducible refine gs (fun _ => ?_) (fun _ => ?_)) | (with_reducible refine cs_ (fun _ => ?_) (fun _ => ?_)) | (with_reducible refine objQ_i (fun _ _ => ?_); (repeat (with_reducible refine imp_i (fun _ => ?_)))) | ((try with_reducible refine appK_a ?_); first | (with_reducible refine appD_F (by refine ⟨?_, ?_, ?_, ?_⟩ <;> (first | assumption | omega | exact St.has_add (by assumption) | (simp only [ins_has]; exact St.has_add (by assumption)) | (simp only [ins_has, fresh_ins, kill_ins, add_ins] at *; exact St.has_add (by assumption)) | (simp only [*, ins_has, has_full, St.has_add]; done) | (simp [-List.map_take, -List.map_drop, or_imp, forall_and, Seg.a, Vec.a, Leg.a, num, okEl, cells_agg, cells_int, cells_sl, cells_bool, AV.isCell]; done) | (simp; omega))) (fun _ _ => ?_)) | (with_reducible refine appD_V (by refine ⟨?_, ?_, ?_, ?_, ?_⟩ <;> (first | assumption | omega | exact St.has_add (by assumption) | (simp only [ins_has]; exact St.has_add (by assumption)) | (simp only [ins_has, fresh_ins, kill_ins, add_ins] at *; exact St.has_add (by assumption)) | (simp only [*, ins_has, has_full, St.has_add]; done) | (simp [-List.map_take, -List.map_drop, or_imp, forall_and, Seg.a, Vec.a, Leg.a, num, okEl, cells_agg, cells_int, cells_sl, cells_bool, AV.isCell]; done) | (simp; omega))) (fun _ _ => ?_))) | (with_reducible refine freshQ_i (fun _ _ => ?_)) | (with_reducible refine nilQ_i (fun _ _ => ?_)) | (with_reducible first | refine callH_use (hg) ?_ | refine pureQ_use (hg) ?_) | (with_reducible first | refine callH_use (head_16) ?_ | refine pureQ_use (head_16) ?_) | (with_reducible first | refine callH_use (hB) ?_ | refine pureQ_use (hB) ?_)))
  (rename_i b4 hb4)
  refine loopp_of (len := A.length) (by simp only [asgL, dsts, List.cons_append, List.nil_append, List.append_nil]; rfl) (by simp only [noR, Bool.and_true, Bool.and_false]; rfl) (by omega) (fun k fr => fr.t 9 = .int .i64 k) ?_ ?_ ?_
  · simp [↓vD, vU, VE.ev, VE.evs, retvs, tupOf, grab, vfill, vbsl, eqCells, eqCell, veqs, veqs1, vmnx, AV.isCell, AV.isUndef, Nat.reduceEqDiff, Nat.reduceAdd, Nat.reduceSub, Nat.reduceLeDiff, Nat.reduceLT, reduceIte, reduceCtorEq, Nat.reduceBEq, k_app, k_slc1]
  · rintro i fr hi hwi hfr hd h9
    obtain ⟨⟨a1, a2, a3⟩, _⟩ := HR.out.at i hi
    have a4 := HT.out _ (List.getElem_mem hi)
    obtain ⟨z, hz⟩ : ∃ z, A[i] = z := ⟨_, rfl⟩
    rw [hz] at a1 a2 a3 a4
    by_cases hi0 : i = 0
    · subst hi0
      (repeat' (first | (simp (config := { maxDischargeDepth := 16 }) only [*, Vec.a, vX, Int.reduceLE, Int.reduceLT, Int.reduceGE, Int.reduceGT, Int.reduceBEq, Int.reduceBNe, Int.reduceAdd, Int.reduceSub, Int.reduceMul, Int.reduceNeg, ↓vD, vU, VE.ev, VE.evs, retvs, tupOf, grab, vfill, vbsl, eqCells, eqCell, veqs, veqs1, vmnx, AV.isCell, AV.isUndef, Nat.reduceEqDiff, Nat.reduceAdd, Nat.reduceSub, Nat.reduceLeDiff, Nat.reduceLT, reduceIte, reduceCtorEq, Nat.reduceBEq]) | (simp (disch := first | assumption | omega | exact Seg.len _ | exact Vec.len _ | exact Leg.len _ | exact num_len _ | exact rowA_len _ | exact rowA_len | exact rowT_len _ | exact rowT_len | exact Seg.len | exact Vec.len | exact Leg.len | exact num_len | exact AV.slen _ _ | rfl) only [Vec.a, vP]) | (with_reducible (first | refine gsnd (fun _ => ?_) (fun _ => ?_) | refine csnd (fun _ => ?_) (fun _ => ?_) | refine gsd (fun _ => ?_) (fun _ => ?_) | refine csd (fun _ => ?_) (fun _ => ?_) | refine gsn (fun _ => ?_) (fun _ => ?_) | refine csn (fun _ => ?_) (fun _ => ?_))) | (with_reducible refine gs (fun _ => ?_) (fun _ => ?_)) | (with_reducible refine cs_ (fun _ => ?_) (fun _ => ?_)) | (with_reducible refine objQ_i (fun _ _ => ?_); (repeat (with_reducible refine imp_i (fun _ => ?_)))) | ((try with_reducible refine appK_a ?_); first | (with_reducible refine appD_F (by refine ⟨?_, ?_, ?_, ?_⟩ <;> (first | assumption | omega | exact St.has_add (by assumption) | (simp only [ins_has]; exact St.has_add (by assumption)) | (simp only [ins_has, fresh_ins, kill_ins, add_ins] at *; exact St.has_add (by assumption)) | (simp only [*, ins_has, has_full, St.has_add]; done) | (simp [-List.map_take, -List.map_drop, or_imp, forall_and, Seg.a, Vec.a, Leg.a, num, okEl, cells_agg, cells_int, cells_sl, cells_bool, AV.isCell]; done) | (simp; omega))) (fun _ _ => ?_)) | (with_reducible refine appD_V (by refine ⟨?_, ?_, ?_, ?_, ?_⟩ <;> (first | assumption | omega | exact St.has_add (by assumption) | (simp only [ins_has]; exact St.has_add (by assumption)) | (simp only [ins_has, fresh_ins, kill_ins, add_ins] at *; exact St.has_add (by assumption)) | (simp only [*, ins_has, has_full, St.has_add]; done) | (simp [-List.map_take, -List.map_drop, or_imp, forall_and, Seg.a, Vec.a, Leg.a, num, okEl, cells_agg, cells_int, cells_sl, cells_bool, AV.isCell]; done) | (simp; omega))) (fun _ _ => ?_))) | (with_reducible refine freshQ_i (fun _ _ => ?_)) | (with_reducible refine nilQ_i (fun _ _ => ?_))))
      all_goals first | done | omega | trace_state
    · obtain ⟨q, rfl⟩ : ∃ q, i = q + 1 := ⟨i - 1, by omega⟩
      have a5 := (HR.out.at q (by omega)).2 (q + 1) hi (by omega)
      obtain ⟨y, hy⟩ : ∃ y, A[q] = y := ⟨_, rfl⟩
      rw [hz, hy] at a5
      have hwq : IntKind.i64.wrap (((q + 1 : Nat) : Int) - 1) = q := by rw [wrap_i64 _ (by omega) (by omega)]; omega
      have e1 : A.getD ((q : Int) + 1).toNat default = z := by rw [toNat_succ, List.getD_eq_getElem?_getD, List.getElem?_eq_getElem hi, ← hz]; rfl
      have e0 : A.getD ((q : Int) + 1 - 1).toNat default = y := by rw [show ((q : Int) + 1 - 1).toNat = q by omega, List.getD_eq_getElem?_getD, List.getElem?_eq_getElem (by omega), ← hy]; rfl
      (repeat' (first | (simp (config := { maxDischargeDepth := 16 }) only [*, Vec.a, vX, Int.reduceLE, Int.reduceLT, Int.reduceGE, Int.reduceGT, Int.reduceBEq, Int.reduceBNe, Int.reduceAdd, Int.reduceSub, Int.reduceMul, Int.reduceNeg, ↓vD, vU, VE.ev, VE.evs, retvs, tupOf, grab, vfill, vbsl, eqCells, eqCell, veqs, veqs1, vmnx, AV.isCell, AV.isUndef, Nat.reduceEqDiff, Nat.reduceAdd, Nat.reduceSub, Nat.reduceLeDiff, Nat.reduceLT, reduceIte, reduceCtorEq, Nat.reduceBEq]) | (simp (disch := first | assumption | omega | exact Seg.len _ | exact Vec.len _ | exact Leg.len _ | exact num_len _ | exact rowA_len _ | exact rowA_len | exact rowT_len _ | exact rowT_len | exact Seg.len | exact Vec.len | exact Leg.len | exact num_len | exact AV.slen _ _ | rfl) only [Vec.a, vP]) | (with_reducible (first | refine gsnd (fun _ => ?_) (fun _ => ?_) | refine csnd (fun _ => ?_) (fun _ => ?_) | refine gsd (fun _ => ?_) (fun _ => ?_) | refine csd (fun _ => ?_) (fun _ => ?_) | refine gsn (fun _ => ?_) (fun _ => ?_) | refine csn (fun _ => ?_) (fun _ => ?_))) | (with_reducible refine gs (fun _ => ?_) (fun _ => ?_)) | (with_reducible refine cs_ (fun _ => ?_) (fun _ => ?_)) | (with_reducible refine objQ_i (fun _ _ => ?_); (repeat (with_reducible refine imp_i (fun _ => ?_)))) | ((try with_reducible refine appK_a ?_); first | (with_reducible refine appD_F (by refine ⟨?_, ?_, ?_, ?_⟩ <;> (first | assumption | omega | exact St.has_add (by assumption) | (simp only [ins_has]; exact St.has_add (by assumption)) | (simp only [ins_has, fresh_ins, kill_ins, add_ins] at *; exact St.has_add (by assumption)) | (simp only [*, ins_has, has_full, St.has_add]; done) | (simp [-List.map_take, -List.map_drop, or_imp, forall_and, Seg.a, Vec.a, Leg.a, num, okEl, cells_agg, cells_int, cells_sl, cells_bool, AV.isCell]; done) | (simp; omega))) (fun _ _ => ?_)) | (with_reducible refine appD_V (by refine ⟨?_, ?_, ?_, ?_, ?_⟩ <;> (first | assumption | omega | exact St.has_add (by assumption) | (simp only [ins_has]; exact St.has_add (by assumption)) | (simp only [ins_has, fresh_ins, kill_ins, add_ins] at *; exact St.has_add (by assumption)) | (simp only [*, ins_has, has_full, St.has_add]; done) | (simp [-List.map_take, -List.map_drop, or_imp, forall_and, Seg.a, Vec.a, Leg.a, num, okEl, cells_agg, cells_int, cells_sl, cells_bool, AV.isCell]; done) | (simp; omega))) (fun _ _ => ?_))) | (with_reducible refine freshQ_i (fun _ _ => ?_)) | (with_reducible refine nilQ_i (fun _ _ => ?_))))
      all_goals first | done | omega
  · rintro fr hfr hd h9
    obtain ⟨n, hn⟩ : ∃ n : Nat, w.c = w.m + n := ⟨(w.c - w.m).toNat, by omega⟩
    have hn4 : n ≤ 4096 := by omega
    have HN := Hid.mk hn
    clear hn
    (repeat' (first | (simp (config := { maxDischargeDepth := 16 }) only [*, Vec.a, vX, Int.reduceLE, Int.reduceLT, Int.reduceGE, Int.reduceGT, Int.reduceBEq, Int.reduceBNe, Int.reduceAdd, Int.reduceSub, Int.reduceMul, Int.reduceNeg, ↓vD, vU, VE.ev, VE.evs, retvs, tupOf, grab, vfill, vbsl, eqCells, eqCell, veqs, veqs1, vmnx, AV.isCell, AV.isUndef, Nat.reduceEqDiff, Nat.reduceAdd, Nat.reduceSub, Nat.reduceLeDiff, Nat.reduceLT, reduceIte, reduceCtorEq, Nat.reduceBEq]) | (simp (disch := first | assumption | omega | exact Seg.len _ | exact Vec.len _ | exact Leg.len _ | exact num_len _ | exact rowA_len _ | exact rowA_len | exact rowT_len _ | exact rowT_len | exact Seg.len | exact Vec.len | exact Leg.len | exact num_len | exact AV.slen _ _ | rfl) only [Vec.a, vP]) | (with_reducible (first | refine gsnd (fun _ => ?_) (fun _ => ?_) | refine csnd (fun _ => ?_) (fun _ => ?_) | refine gsd (fun _ => ?_) (fun _ => ?_) | refine csd (fun _ => ?_) (fun _ => ?_) | refine gsn (fun _ => ?_) (fun _ => ?_) | refine csn (fun _ => ?_) (fun _ => ?_))) | (with_reducible refine gs (fun _ => ?_) (fun _ => ?_)) | (with_reducible refine cs_ (fun _ => ?_) (fun _ => ?_)) | (with_reducible refine objQ_i (fun _ _ => ?_); (repeat (with_reducible refine imp_i (fun _ => ?_)))) | ((try with_reducible refine appK_a ?_); first | (with_reducible refine appD_F (by refine ⟨?_, ?_, ?_, ?_⟩ <;> (first | assumption | omega | exact St.has_add (by assumption) | (simp only [ins_has]; exact St.has_add (by assumption)) | (simp only [ins_has, fresh_ins, kill_ins, add_ins] at *; exact St.has_add (by assumption)) | (simp only [*, ins_has, has_full, St.has_add]; done) | (simp [-List.map_take, -List.map_drop, or_imp, forall_and, Seg.a, Vec.a, Leg.a, num, okEl, cells_agg, cells_int, cells_sl, cells_bool, AV.isCell]; done) | (simp; omega))) (fun _ _ => ?_)) | (with_reducible refine appD_V (by refine ⟨?_, ?_, ?_, ?_, ?_⟩ <;> (first | assumption | omega | exact St.has_add (by assumption) | (simp only [ins_has]; exact St.has_add (by assumption)) | (simp only [ins_has, fresh_ins, kill_ins, add_ins] at *; exact St.has_add (by assumption)) | (simp only [*, ins_has, has_full, St.has_add]; done) | (simp [-List.map_take, -List.map_drop, or_imp, forall_and, Seg.a, Vec.a, Leg.a, num, okEl, cells_agg, cells_int, cells_sl, cells_bool, AV.isCell]; done) | (simp; omega))) (fun _ _ => ?_))) | (with_reducible refine freshQ_i (fun _ _ => ?_)) | (with_reducible refine nilQ_i (fun _ _ => ?_))))
    refine loopp_of (len := n) (by simp only [asgL, dsts, List.cons_append, List.nil_append, List.append_nil]; rfl) (by simp only [noR, Bool.and_true, Bool.and_false]; rfl) (by omega) (fun j fr => ∃ k : Nat, fr.t 11 = .int .i64 (w.m + j) ∧ fr.t 10 = .int .i64 k ∧ k ≤ A.length ∧ Hid (∀ i (hi : i < A.length), i < k → A[i].c ≤ w.m + j)) ?_ ?_ ?_
    · exact ⟨0, by simp [↓vD, vU, VE.ev, VE.evs, retvs, tupOf, grab, vfill, vbsl, eqCells, eqCell, veqs, veqs1, vmnx, AV.isCell, AV.isUndef, Nat.reduceEqDiff, Nat.reduceAdd, Nat.reduceSub, Nat.reduceLeDiff, Nat.reduceLT, reduceIte, reduceCtorEq, Nat.reduceBEq, k_app, k_slc1], by simp [↓vD, vU, VE.ev, VE.evs, retvs, tupOf, grab, vfill, vbsl, eqCells, eqCell, veqs, veqs1, vmnx, AV.isCell, AV.isUndef, Nat.reduceEqDiff, Nat.reduceAdd, Nat.reduceSub, Nat.reduceLeDiff, Nat.reduceLT, reduceIte, reduceCtorEq, Nat.reduceBEq, k_app, k_slc1], by omega, ⟨fun i _ h => by omega⟩⟩
    · rintro j fr2 hj hwj hfr2 hd2 ⟨k, h11, h10, hk, HK⟩
      obtain ⟨tt, htt⟩ : ∃ t : Int, w.m + j = t := ⟨_, rfl⟩
      rw [htt] at h11 HK
      have htj : w.m ≤ tt ∧ tt < w.c := by have := HN.out; omega
      obtain ⟨t1, t2⟩ := htj
      have htn : w.m + ((j + 1 : Nat) : Int) = tt + 1 := by omega
      have hwt : IntKind.i64.wrap (tt + 1) = tt + 1 := wrap_i64 _ (by omega) (by omega)
      have HTN := Hid.mk htn
      have hfix : (∃ s, True) := ⟨0, trivial⟩
      clear htt htn hwj
      (repeat' (first | (simp (config := { maxDischargeDepth := 16 }) only [*, Vec.a, vX, Int.reduceLE, Int.reduceLT, Int.reduceGE, Int.reduceGT, Int.reduceBEq, Int.reduceBNe, Int.reduceAdd, Int.reduceSub, Int.reduceMul, Int.reduceNeg, ↓vD, vU, VE.ev, VE.evs, retvs, tupOf, grab, vfill, vbsl, eqCells, eqCell, veqs, veqs1, vmnx, AV.isCell, AV.isUndef, Nat.reduceEqDiff, Nat.reduceAdd, Nat.reduceSub, Nat.reduceLeDiff, Nat.reduceLT, reduceIte, reduceCtorEq, Nat.reduceBEq]) | (simp (disch := first | assumption | omega | exact Seg.len _ | exact Vec.len _ | exact Leg.len _ | exact num_len _ | exact rowA_len _ | exact rowA_len | exact rowT_len _ | exact rowT_len | exact Seg.len | exact Vec.len | exact Leg.len | exact num_len | exact AV.slen _ _ | rfl) only [Vec.a, vP]) | (with_reducible (first | refine gsnd (fun _ => ?_) (fun _ => ?_) | refine csnd (fun _ => ?_) (fun _ => ?_) | refine gsd (fun _ => ?_) (fun _ => ?_) | refine csd (fun _ => ?_) (fun _ => ?_) | refine gsn (fun _ => ?_) (fun _ => ?_) | refine csn (fun _ => ?_) (fun _ => ?_))) | (with_reducible refine gs (fun _ => ?_) (fun _ => ?_)) | (with_reducible refine cs_ (fun _ => ?_) (fun _ => ?_)) | (with_reducible refine objQ_i (fun _ _ => ?_); (repeat (with_reducible refine imp_i (fun _ => ?_)))) | ((try with_reducible refine appK_a ?_); first | (with_reducible refine appD_F (by refine ⟨?_, ?_, ?_, ?_⟩ <;> (first | assumption | omega | exact St.has_add (by assumption) | (simp only [ins_has]; exact St.has_add (by assumption)) | (simp only [ins_has, fresh_ins, kill_ins, add_ins] at *; exact St.has_add (by assumption)) | (simp only [*, ins_has, has_full, St.has_add]; done) | (simp [-List.map_take, -List.map_drop, or_imp, forall_and, Seg.a, Vec.a, Leg.a, num, okEl, cells_agg, cells_int, cells_sl, cells_bool, AV.isCell]; done) | (simp; omega))) (fun _ _ => ?_)) | (with_reducible refine appD_V (by refine ⟨?_, ?_, ?_, ?_, ?_⟩ <;> (first | assumption | omega | exact St.has_add (by assumption) | (simp only [ins_has]; exact St.has_add (by assumption)) | (simp only [ins_has, fresh_ins, kill_ins, add_ins] at *; exact St.has_add (by assumption)) | (simp only [*, ins_has, has_full, St.has_add]; done) | (simp [-List.map_take, -List.map_drop, or_imp, forall_and, Seg.a, Vec.a, Leg.a, num, okEl, cells_agg, cells_int, cells_sl, cells_bool, AV.isCell]; done) | (simp; omega))) (fun _ _ => ?_))) | (with_reducible refine freshQ_i (fun _ _ => ?_)) | (with_reducible refine nilQ_i (fun _ _ => ?_))))
      refine loopq_of (by simp only [asgL, dsts, List.cons_append, List.nil_append, List.append_nil]; rfl) (by simp only [noR, Bool.and_true, Bool.and_false]; rfl) (fun r fr3 => ∃ k : Nat, fr3.t 10 = .int .i64 k ∧ k + r = A.length ∧ Hid (∀ i (hi : i < A.length), i < k → A[i].c ≤ tt)) ?_ ?_
      · exact ⟨A.length - k, k, by simp [↓vD, vU, VE.ev, VE.evs, retvs, tupOf, grab, vfill, vbsl, eqCells, eqCell, veqs, veqs1, vmnx, AV.isCell, AV.isUndef, Nat.reduceEqDiff, Nat.reduceAdd, Nat.reduceSub, Nat.reduceLeDiff, Nat.reduceLT, reduceIte, reduceCtorEq, Nat.reduceBEq, k_app, k_slc1, *], by omega, HK⟩
      · clear HK hk h10
        rintro r fr3 hfr3 hd3 ⟨k, h10, hkr, HK⟩
        by_cases hkl : k < A.length
        · obtain ⟨z, hz⟩ : ∃ z, A[k] = z := ⟨_, rfl⟩
          by_cases hzc : z.c ≤ tt
          · (repeat' (first | (simp (config := { maxDischargeDepth := 16 }) only [*, Vec.a, vX, Int.reduceLE, Int.reduceLT, Int.reduceGE, Int.reduceGT, Int.reduceBEq, Int.reduceBNe, Int.reduceAdd, Int.reduceSub, Int.reduceMul, Int.reduceNeg, ↓vD, vU, VE.ev, VE.evs, retvs, tupOf, grab, vfill, vbsl, eqCells, eqCell, veqs, veqs1, vmnx, AV.isCell, AV.isUndef, Nat.reduceEqDiff, Nat.reduceAdd, Nat.reduceSub, Nat.reduceLeDiff, Nat.reduceLT, reduceIte, reduceCtorEq, Nat.reduceBEq]) | (simp (disch := first | assumption | omega | exact Seg.len _ | exact Vec.len _ | exact Leg.len _ | exact num_len _ | exact rowA_len _ | exact rowA_len | exact rowT_len _ | exact rowT_len | exact Seg.len | exact Vec.len | exact Leg.len | exact num_len | exact AV.slen _ _ | rfl) only [Vec.a, vP]) | (with_reducible (first | refine gsnd (fun _ => ?_) (fun _ => ?_) | refine csnd (fun _ => ?_) (fun _ => ?_) | refine gsd (fun _ => ?_) (fun _ => ?_) | refine csd (fun _ => ?_) (fun _ => ?_) | refine gsn (fun _ => ?_) (fun _ => ?_) | refine csn (fun _ => ?_) (fun _ => ?_))) | (with_reducible refine gs (fun _ => ?_) (fun _ => ?_)) | (with_reducible refine cs_ (fun _ => ?_) (fun _ => ?_)) | (with_reducible refine objQ_i (fun _ _ => ?_); (repeat (with_reducible refine imp_i (fun _ => ?_)))) | ((try with_reducible refine appK_a ?_); first | (with_reducible refine appD_F (by refine ⟨?_, ?_, ?_, ?_⟩ <;> (first | assumption | omega | exact St.has_add (by assumption) | (simp only [ins_has]; exact St.has_add (by assumption)) | (simp only [ins_has, fresh_ins, kill_ins, add_ins] at *; exact St.has_add (by assumption)) | (simp only [*, ins_has, has_full, St.has_add]; done) | (simp [-List.map_take, -List.map_drop, or_imp, forall_and, Seg.a, Vec.a, Leg.a, num, okEl, cells_agg, cells_int, cells_sl, cells_bool, AV.isCell]; done) | (simp; omega))) (fun _ _ => ?_)) | (with_reducible refine appD_V (by refine ⟨?_, ?_, ?_, ?_, ?_⟩ <;> (first | assumption | omega | exact St.has_add (by assumption) | (simp only [ins_has]; exact St.has_add (by assumption)) | (simp only [ins_has, fresh_ins, kill_ins, add_ins] at *; exact St.has_add (by assumption)) | (simp only [*, ins_has, has_full, St.has_add]; done) | (simp [-List.map_take, -List.map_drop, or_imp, forall_and, Seg.a, Vec.a, Leg.a, num, okEl, cells_agg, cells_int, cells_sl, cells_bool, AV.isCell]; done) | (simp; omega))) (fun _ _ => ?_))) | (with_reducible refine freshQ_i (fun _ _ => ?_)) | (with_reducible refine nilQ_i (fun _ _ => ?_))))
            refine ⟨r - 1, by omega, k + 1, by simp, by omega, ⟨fun i hi hik => ?_⟩⟩
            rcases Nat.lt_or_ge i k with h | h
            · exact HK.out i hi h
            · obtain rfl : i = k := by omega
              rw [hz]; exact hzc
          · have hm := memW_at HR.out (t := tt) HK.out (fun hk => by rw [hz]; omega)
            have HM : Hid (memW A tt ↔ z.m ≤ tt) := ⟨by rw [hm]; exact ⟨fun ⟨_, h⟩ => by rwa [hz] at h, fun h => ⟨hkl, by rwa [hz]⟩⟩⟩
            clear hm
            (repeat' (first | (simp (config := { maxDischargeDepth := 16 }) only [*, Vec.a, vX, Int.reduceLE, Int.reduceLT, Int.reduceGE, Int.reduceGT, Int.reduceBEq, Int.reduceBNe, Int.reduceAdd, Int.reduceSub, Int.reduceMul, Int.reduceNeg, ↓vD, vU, VE.ev, VE.evs, retvs, tupOf, grab, vfill, vbsl, eqCells, eqCell, veqs, veqs1, vmnx, AV.isCell, AV.isUndef, Nat.reduceEqDiff, Nat.reduceAdd, Nat.reduceSub, Nat.reduceLeDiff, Nat.reduceLT, reduceIte, reduceCtorEq, Nat.reduceBEq]) | (simp (disch := first | assumption | omega | exact Seg.len _ | exact Vec.len _ | exact Leg.len _ | exact num_len _ | exact rowA_len _ | exact rowA_len | exact rowT_len _ | exact rowT_len | exact Seg.len | exact Vec.len | exact Leg.len | exact num_len | exact AV.slen _ _ | rfl) only [Vec.a, vP]) | (with_reducible (first | refine gsnd (fun _ => ?_) (fun _ => ?_) | refine csnd (fun _ => ?_) (fun _ => ?_) | refine gsd (fun _ => ?_) (fun _ => ?_) | refine csd (fun _ => ?_) (fun _ => ?_) | refine gsn (fun _ => ?_) (fun _ => ?_) | refine csn (fun _ => ?_) (fun _ => ?_))) | (with_reducible refine gs (fun _ => ?_) (fun _ => ?_)) | (with_reducible refine cs_ (fun _ => ?_) (fun _ => ?_)) | (with_reducible refine objQ_i (fun _ _ => ?_); (repeat (with_reducible refine imp_i (fun _ => ?_)))) | ((try with_reducible refine appK_a ?_); first | (with_reducible refine appD_F (by refine ⟨?_, ?_, ?_, ?_⟩ <;> (first | assumption | omega | exact St.has_add (by assumption) | (simp only [ins_has]; exact St.has_add (by assumption)) | (simp only [ins_has, fresh_ins, kill_ins, add_ins] at *; exact St.has_add (by assumption)) | (simp only [*, ins_has, has_full, St.has_add]; done) | (simp [-List.map_take, -List.map_drop, or_imp, forall_and, Seg.a, Vec.a, Leg.a, num, okEl, cells_agg, cells_int, cells_sl, cells_bool, AV.isCell]; done) | (simp; omega))) (fun _ _ => ?_)) | (with_reducible refine appD_V (by refine ⟨?_, ?_, ?_, ?_, ?_⟩ <;> (first | assumption | omega | exact St.has_add (by assumption) | (simp only [ins_has]; exact St.has_add (by assumption)) | (simp only [ins_has, fresh_ins, kill_ins, add_ins] at *; exact St.has_add (by assumption)) | (simp only [*, ins_has, has_full, St.has_add]; done) | (simp [-List.map_take, -List.map_drop, or_imp, forall_and, Seg.a, Vec.a, Leg.a, num, okEl, cells_agg, cells_int, cells_sl, cells_bool, AV.isCell]; done) | (simp; omega))) (fun _ _ => ?_))) | (with_reducible refine freshQ_i (fun _ _ => ?_)) | (with_reducible refine nilQ_i (fun _ _ => ?_))))
            refine loopp_of (len := l.length) (by simp only [asgL, dsts, List.cons_append, List.nil_append, List.append_nil]; rfl) (by simp only [noR, Bool.and_true, Bool.and_false]; rfl) (by omega) (fun i fr4 => ∃ (u : Int) (b : Bool), fr4.t 14 = .int .i64 i ∧ fr4.t 13 = .int .i64 u ∧ fr4.t 12 = .bool b ∧ tt ≤ u ∧ u ≤ tt + 4096 * i ∧ Hid ((b && allB f w (l.drop i) u) = allB f w l tt)) ?_ ?_ ?_
            · exact ⟨tt, true, by simp [↓vD, vU, VE.ev, VE.evs, retvs, tupOf, grab, vfill, vbsl, eqCells, eqCell, veqs, veqs1, vmnx, AV.isCell, AV.isUndef, Nat.reduceEqDiff, Nat.reduceAdd, Nat.reduceSub, Nat.reduceLeDiff, Nat.reduceLT, reduceIte, reduceCtorEq, Nat.reduceBEq, k_app, k_slc1], by simp [↓vD, vU, VE.ev, VE.evs, retvs, tupOf, grab, vfill, vbsl, eqCells, eqCell, veqs, veqs1, vmnx, AV.isCell, AV.isUndef, Nat.reduceEqDiff, Nat.reduceAdd, Nat.reduceSub, Nat.reduceLeDiff, Nat.reduceLT, reduceIte, reduceCtorEq, Nat.reduceBEq, k_app, k_slc1], by simp [↓vD, vU, VE.ev, VE.evs, retvs, tupOf, grab, vfill, vbsl, eqCells, eqCell, veqs, veqs1, vmnx, AV.isCell, AV.isUndef, Nat.reduceEqDiff, Nat.reduceAdd, Nat.reduceSub, Nat.reduceLeDiff, Nat.reduceLT, reduceIte, reduceCtorEq, Nat.reduceBEq, k_app, k_slc1], by omega, by omega, ⟨by simp⟩⟩
            · rintro i fr4 hi hwi4 hfr4 hd4 ⟨u, b, h14, h13, h12, hu1, hu2, HU⟩
              obtain ⟨x, hx⟩ : ∃ x, l[i] = x := ⟨_, rfl⟩
              have hxd := HP.out x (by rw [← hx]; exact List.getElem_mem _)
              have hF := hfit u x.d x.v
              have hwu : IntKind.i64.wrap (u + x.d) = u + x.d := wrap_i64 _ (by omega) (by omega)
              have hN : (b && (stepB f w u x && allB f w (l.drop (i + 1)) (u + x.d))) = allB f w l tt := by rw [← HU.out, List.drop_eq_getElem_cons hi, hx, allB]
              unfold stepB at hN
              obtain ⟨q, hq⟩ : ∃ q, fitsF f u x.d x.v = q := ⟨_, rfl⟩
              rw [hq] at hF hN
              have HN2 := Hid.mk hN
              clear hN hq HU
              cases b with
              | false =>
                (repeat' (first | (simp (config := { maxDischargeDepth := 16 }) only [*, Leg.a, vX, Int.reduceLE, Int.reduceLT, Int.reduceGE, Int.reduceGT, Int.reduceBEq, Int.reduceBNe, Int.reduceAdd, Int.reduceSub, Int.reduceMul, Int.reduceNeg, ↓vD, vU, VE.ev, VE.evs, retvs, tupOf, grab, vfill, vbsl, eqCells, eqCell, veqs, veqs1, vmnx, AV.isCell, AV.isUndef, Nat.reduceEqDiff, Nat.reduceAdd, Nat.reduceSub, Nat.reduceLeDiff, Nat.reduceLT, reduceIte, reduceCtorEq, Nat.reduceBEq]) | (simp (disch := first | assumption | omega | exact Seg.len _ | exact Vec.len _ | exact Leg.len _ | exact num_len _ | exact rowA_len _ | exact rowA_len | exact rowT_len _ | exact rowT_len | exact Seg.len | exact Vec.len | exact Leg.len | exact num_len | exact AV.slen _ _ | rfl) only [Leg.a, vP]) | (with_reducible (first | refine gsnd (fun _ => ?_) (fun _ => ?_) | refine csnd (fun _ => ?_) (fun _ => ?_) | refine gsd (fun _ => ?_) (fun _ => ?_) | refine csd (fun _ => ?_) (fun _ => ?_) | refine gsn (fun _ => ?_) (fun _ => ?_) | refine csn (fun _ => ?_) (fun _ => ?_))) | (with_reducible refine gs (fun _ => ?_) (fun _ => ?_)) | (with_reducible refine cs_ (fun _ => ?_) (fun _ => ?_)) | (with_reducible refine objQ_i (fun _ _ => ?_); (repeat (with_reducible refine imp_i (fun _ => ?_)))) | ((try with_reducible refine appK_a ?_); first | (with_reducible refine appD_F (by refine ⟨?_, ?_, ?_, ?_⟩ <;> (first | assumption | omega | exact St.has_add (by assumption) | (simp only [ins_has]; exact St.has_add (by assumption)) | (simp only [ins_has, fresh_ins, kill_ins, add_ins] at *; exact St.has_add (by assumption)) | (simp only [*, ins_has, has_full, St.has_add]; done) | (simp [-List.map_take, -List.map_drop, or_imp, forall_and, Seg.a, Vec.a, Leg.a, num, okEl, cells_agg, cells_int, cells_sl, cells_bool, AV.isCell]; done) | (simp; omega))) (fun _ _ => ?_)) | (with_reducible refine appD_V (by refine ⟨?_, ?_, ?_, ?_, ?_⟩ <;> (first | assumption | omega | exact St.has_add (by assumption) | (simp only [ins_has]; exact St.has_add (by assumption)) | (simp only [ins_has, fresh_ins, kill_ins, add_ins] at *; exact St.has_add (by assumption)) | (simp only [*, ins_has, has_full, St.has_add]; done) | (simp [-List.map_take, -List.map_drop, or_imp, forall_and, Seg.a, Vec.a, Leg.a, num, okEl, cells_agg, cells_int, cells_sl, cells_bool, AV.isCell]; done) | (simp; omega))) (fun _ _ => ?_))) | (with_reducible refine freshQ_i (fun _ _ => ?_)) | (with_reducible refine nilQ_i (fun _ _ => ?_)) | (with_reducible first | refine callH_use (hF) ?_ | refine pureQ_use (hF) ?_)))
                all_goals first | done | exact ⟨_, _, rfl, rfl, by omega, by omega, ⟨by rw [← HN2.out]; simp⟩⟩
              | true =>
                (repeat' (first | (simp (config := { maxDischargeDepth := 16 }) only [*, Leg.a, vX, Int.reduceLE, Int.reduceLT, Int.reduceGE, Int.reduceGT, Int.reduceBEq, Int.reduceBNe, Int.reduceAdd, Int.reduceSub, Int.reduceMul, Int.reduceNeg, ↓vD, vU, VE.ev, VE.evs, retvs, tupOf, grab, vfill, vbsl, eqCells, eqCell, veqs, veqs1, vmnx, AV.isCell, AV.isUndef, Nat.reduceEqDiff, Nat.reduceAdd, Nat.reduceSub, Nat.reduceLeDiff, Nat.reduceLT, reduceIte, reduceCtorEq, Nat.reduceBEq]) | (simp (disch := first | assumption | omega | exact Seg.len _ | exact Vec.len _ | exact Leg.len _ | exact num_len _ | exact rowA_len _ | exact rowA_len | exact rowT_len _ | exact rowT_len | exact Seg.len | exact Vec.len | exact Leg.len | exact num_len | exact AV.slen _ _ | rfl) only [Leg.a, vP]) | (with_reducible (first | refine gsnd (fun _ => ?_) (fun _ => ?_) | refine csnd (fun _ => ?_) (fun _ => ?_) | refine gsd (fun _ => ?_) (fun _ => ?_) | refine csd (fun _ => ?_) (fun _ => ?_) | refine gsn (fun _ => ?_) (fun _ => ?_) | refine csn (fun _ => ?_) (fun _ => ?_))) | (with_reducible refine gs (fun _ => ?_) (fun _ => ?_)) | (with_reducible refine cs_ (fun _ => ?_) (fun _ => ?_)) | (with_reducible refine objQ_i (fun _ _ => ?_); (repeat (with_reducible refine imp_i (fun _ => ?_)))) | ((try with_reducible refine appK_a ?_); first | (with_reducible refine appD_F (by refine ⟨?_, ?_, ?_, ?_⟩ <;> (first | assumption | omega | exact St.has_add (by assumption) | (simp only [ins_has]; exact St.has_add (by assumption)) | (simp only [ins_has, fresh_ins, kill_ins, add_ins] at *; exact St.has_add (by assumption)) | (simp only [*, ins_has, has_full, St.has_add]; done) | (simp [-List.map_take, -List.map_drop, or_imp, forall_and, Seg.a, Vec.a, Leg.a, num, okEl, cells_agg, cells_int, cells_sl, cells_bool, AV.isCell]; done) | (simp; omega))) (fun _ _ => ?_)) | (with_reducible refine appD_V (by refine ⟨?_, ?_, ?_, ?_, ?_⟩ <;> (first | assumption | omega | exact St.has_add (by assumption) | (simp only [ins_has]; exact St.has_add (by assumption)) | (simp only [ins_has, fresh_ins, kill_ins, add_ins] at *; exact St.has_add (by assumption)) | (simp only [*, ins_has, has_full, St.has_add]; done) | (simp [-List.map_take, -List.map_drop, or_imp, forall_and, Seg.a, Vec.a, Leg.a, num, okEl, cells_agg, cells_int, cells_sl, cells_bool, AV.isCell]; done) | (simp; omega))) (fun _ _ => ?_))) | (with_reducible refine freshQ_i (fun _ _ => ?_)) | (with_reducible refine nilQ_i (fun _ _ => ?_)) | (with_reducible first | refine callH_use (hF) ?_ | refine pureQ_use (hF) ?_)))
                all_goals (refine ⟨_, _, rfl, rfl, by omega, by omega, ⟨?_⟩⟩; rw [← HN2.out]; simp [*])
            · rintro fr4 hfr4 hd4 ⟨u, b, h14, h13, h12, hu1, hu2, HU⟩
              rw [List.drop_length, allB, Bool.and_true] at HU
              have hb : b = decide (z.m ≤ tt) := by
                have h1 := HL.out tt t1
                rw [← HU.out, HM.out] at h1
                cases b <;> simp_all
              clear HU
              by_cases hzm : z.m ≤ tt
              · have hb2 : b = true := by rw [hb]; exact decide_eq_true hzm
                clear hb
                subst hb2
                (repeat' (first | (simp (config := { maxDischargeDepth := 16 }) only [*, Vec.a, vX, Int.reduceLE, Int.reduceLT, Int.reduceGE, Int.reduceGT, Int.reduceBEq, Int.reduceBNe, Int.reduceAdd, Int.reduceSub, Int.reduceMul, Int.reduceNeg, ↓vD, vU, VE.ev, VE.evs, retvs, tupOf, grab, vfill, vbsl, eqCells, eqCell, veqs, veqs1, vmnx, AV.isCell, AV.isUndef, Nat.reduceEqDiff, Nat.reduceAdd, Nat.reduceSub, Nat.reduceLeDiff, Nat.reduceLT, reduceIte, reduceCtorEq, Nat.reduceBEq]) | (simp (disch := first | assumption | omega | exact Seg.len _ | exact Vec.len _ | exact Leg.len _ | exact num_len _ | exact rowA_len _ | exact rowA_len | exact rowT_len _ | exact rowT_len | exact Seg.len | exact Vec.len | exact Leg.len | exact num_len | exact AV.slen _ _ | rfl) only [Vec.a, vP]) | (with_reducible (first | refine gsnd (fun _ => ?_) (fun _ => ?_) | refine csnd (fun _ => ?_) (fun _ => ?_) | refine gsd (fun _ => ?_) (fun _ => ?_) | refine csd (fun _ => ?_) (fun _ => ?_) | refine gsn (fun _ => ?_) (fun _ => ?_) | refine csn (fun _ => ?_) (fun _ => ?_))) | (with_reducible refine gs (fun _ => ?_) (fun _ => ?_)) | (with_reducible refine cs_ (fun _ => ?_) (fun _ => ?_)) | (with_reducible refine objQ_i (fun _ _ => ?_); (repeat (with_reducible refine imp_i (fun _ => ?_)))) | ((try with_reducible refine appK_a ?_); first | (with_reducible refine appD_F (by refine ⟨?_, ?_, ?_, ?_⟩ <;> (first | assumption | omega | exact St.has_add (by assumption) | (simp only [ins_has]; exact St.has_add (by assumption)) | (simp only [ins_has, fresh_ins, kill_ins, add_ins] at *; exact St.has_add (by assumption)) | (simp only [*, ins_has, has_full, St.has_add]; done) | (simp [-List.map_take, -List.map_drop, or_imp, forall_and, Seg.a, Vec.a, Leg.a, num, okEl, cells_agg, cells_int, cells_sl, cells_bool, AV.isCell]; done) | (simp; omega))) (fun _ _ => ?_)) | (with_reducible refine appD_V (by refine ⟨?_, ?_, ?_, ?_, ?_⟩ <;> (first | assumption | omega | exact St.has_add (by assumption) | (simp only [ins_has]; exact St.has_add (by assumption)) | (simp only [ins_has, fresh_ins, kill_ins, add_ins] at *; exact St.has_add (by assumption)) | (simp only [*, ins_has, has_full, St.has_add]; done) | (simp [-List.map_take, -List.map_drop, or_imp, forall_and, Seg.a, Vec.a, Leg.a, num, okEl, cells_agg, cells_int, cells_sl, cells_bool, AV.isCell]; done) | (simp; omega))) (fun _ _ => ?_))) | (with_reducible refine freshQ_i (fun _ _ => ?_)) | (with_reducible refine nilQ_i (fun _ _ => ?_))))
                all_goals exact ⟨k, by have := HTN.out; omega, rfl, by omega, ⟨fun i hi h => by have := HK.out i hi h; have := HTN.out; omega⟩⟩
              · have hb2 : b = false := by rw [hb]; exact decide_eq_false hzm
                clear hb
                subst hb2
                (repeat' (first | (simp (config := { maxDischargeDepth := 16 }) only [*, Vec.a, vX, Int.reduceLE, Int.reduceLT, Int.reduceGE, Int.reduceGT, Int.reduceBEq, Int.reduceBNe, Int.reduceAdd, Int.reduceSub, Int.reduceMul, Int.reduceNeg, ↓vD, vU, VE.ev, VE.evs, retvs, tupOf, grab, vfill, vbsl, eqCells, eqCell, veqs, veqs1, vmnx, AV.isCell, AV.isUndef, Nat.reduceEqDiff, Nat.reduceAdd, Nat.reduceSub, Nat.reduceLeDiff, Nat.reduceLT, reduceIte, reduceCtorEq, Nat.reduceBEq]) | (simp (disch := first | assumption | omega | exact Seg.len _ | exact Vec.len _ | exact Leg.len _ | exact num_len _ | exact rowA_len _ | exact rowA_len | exact rowT_len _ | exact rowT_len | exact Seg.len | exact Vec.len | exact Leg.len | exact num_len | exact AV.slen _ _ | rfl) only [Vec.a, vP]) | (with_reducible (first | refine gsnd (fun _ => ?_) (fun _ => ?_) | refine csnd (fun _ => ?_) (fun _ => ?_) | refine gsd (fun _ => ?_) (fun _ => ?_) | refine csd (fun _ => ?_) (fun _ => ?_) | refine gsn (fun _ => ?_) (fun _ => ?_) | refine csn (fun _ => ?_) (fun _ => ?_))) | (with_reducible refine gs (fun _ => ?_) (fun _ => ?_)) | (with_reducible refine cs_ (fun _ => ?_) (fun _ => ?_)) | (with_reducible refine objQ_i (fun _ _ => ?_); (repeat (with_reducible refine imp_i (fun _ => ?_)))) | ((try with_reducible refine appK_a ?_); first | (with_reducible refine appD_F (by refine ⟨?_, ?_, ?_, ?_⟩ <;> (first | assumption | omega | exact St.has_add (by assumption) | (simp only [ins_has]; exact St.has_add (by assumption)) | (simp only [ins_has, fresh_ins, kill_ins, add_ins] at *; exact St.has_add (by assumption)) | (simp only [*, ins_has, has_full, St.has_add]; done) | (simp [-List.map_take, -List.map_drop, or_imp, forall_and, Seg.a, Vec.a, Leg.a, num, okEl, cells_agg, cells_int, cells_sl, cells_bool, AV.isCell]; done) | (simp; omega))) (fun _ _ => ?_)) | (with_reducible refine appD_V (by refine ⟨?_, ?_, ?_, ?_, ?_⟩ <;> (first | assumption | omega | exact St.has_add (by assumption) | (simp only [ins_has]; exact St.has_add (by assumption)) | (simp only [ins_has, fresh_ins, kill_ins, add_ins] at *; exact St.has_add (by assumption)) | (simp only [*, ins_has, has_full, St.has_add]; done) | (simp [-List.map_take, -List.map_drop, or_imp, forall_and, Seg.a, Vec.a, Leg.a, num, okEl, cells_agg, cells_int, cells_sl, cells_bool, AV.isCell]; done) | (simp; omega))) (fun _ _ => ?_))) | (with_reducible refine freshQ_i (fun _ _ => ?_)) | (with_reducible refine nilQ_i (fun _ _ => ?_))))
                all_goals exact ⟨k, by have := HTN.out; omega, rfl, by omega, ⟨fun i hi h => by have := HK.out i hi h; have := HTN.out; omega⟩⟩
        · have hm := memW_at HR.out (t := tt) HK.out (fun hk => absurd hk hkl)
          have HM : Hid (¬ memW A tt) := ⟨fun h => by obtain ⟨h1, _⟩ := hm.1 h; exact hkl h1⟩
          clear hm
          (repeat' (first | (simp (config := { maxDischargeDepth := 16 }) only [*, Vec.a, vX, Int.reduceLE, Int.reduceLT, Int.reduceGE, Int.reduceGT, Int.reduceBEq, Int.reduceBNe, Int.reduceAdd, Int.reduceSub, Int.reduceMul, Int.reduceNeg, ↓vD, vU, VE.ev, VE.evs, retvs, tupOf, grab, vfill, vbsl, eqCells, eqCell, veqs, veqs1, vmnx, AV.isCell, AV.isUndef, Nat.reduceEqDiff, Nat.reduceAdd, Nat.reduceSub, Nat.reduceLeDiff, Nat.reduceLT, reduceIte, reduceCtorEq, Nat.reduceBEq]) | (simp (disch := first | assumption | omega | exact Seg.len _ | exact Vec.len _ | exact Leg.len _ | exact num_len _ | exact rowA_len _ | exact rowA_len | exact rowT_len _ | exact rowT_len | exact Seg.len | exact Vec.len | exact Leg.len | exact num_len | exact AV.slen _ _ | rfl) only [Vec.a, vP]) | (with_reducible (first | refine gsnd (fun _ => ?_) (fun _ => ?_) | refine csnd (fun _ => ?_) (fun _ => ?_) | refine gsd (fun _ => ?_) (fun _ => ?_) | refine csd (fun _ => ?_) (fun _ => ?_) | refine gsn (fun _ => ?_) (fun _ => ?_) | refine csn (fun _ => ?_) (fun _ => ?_))) | (with_reducible refine gs (fun _ => ?_) (fun _ => ?_)) | (with_reducible refine cs_ (fun _ => ?_) (fun _ => ?_)) | (with_reducible refine objQ_i (fun _ _ => ?_); (repeat (with_reducible refine imp_i (fun _ => ?_)))) | ((try with_reducible refine appK_a ?_); first | (with_reducible refine appD_F (by refine ⟨?_, ?_, ?_, ?_⟩ <;> (first | assumption | omega | exact St.has_add (by assumption) | (simp only [ins_has]; exact St.has_add (by assumption)) | (simp only [ins_has, fresh_ins, kill_ins, add_ins] at *; exact St.has_add (by assumption)) | (simp only [*, ins_has, has_full, St.has_add]; done) | (simp [-List.map_take, -List.map_drop, or_imp, forall_and, Seg.a, Vec.a, Leg.a, num, okEl, cells_agg, cells_int, cells_sl, cells_bool, AV.isCell]; done) | (simp; omega))) (fun _ _ => ?_)) | (with_reducible refine appD_V (by refine ⟨?_, ?_, ?_, ?_, ?_⟩ <;> (first | assumption | omega | exact St.has_add (by assumption) | (simp only [ins_has]; exact St.has_add (by assumption)) | (simp only [ins_has, fresh_ins, kill_ins, add_ins] at *; exact St.has_add (by assumption)) | (simp only [*, ins_has, has_full, St.has_add]; done) | (simp [-List.map_take, -List.map_drop, or_imp, forall_and, Seg.a, Vec.a, Leg.a, num, okEl, cells_agg, cells_int, cells_sl, cells_bool, AV.isCell]; done) | (simp; omega))) (fun _ _ => ?_))) | (with_reducible refine freshQ_i (fun _ _ => ?_)) | (with_reducible refine nilQ_i (fun _ _ => ?_))))
          refine loopp_of (len := l.length) (by simp only [asgL, dsts, List.cons_append, List.nil_append, List.append_nil]; rfl) (by simp only [noR, Bool.and_true, Bool.and_false]; rfl) (by omega) (fun i fr4 => ∃ (u : Int) (b : Bool), fr4.t 14 = .int .i64 i ∧ fr4.t 13 = .int .i64 u ∧ fr4.t 12 = .bool b ∧ tt ≤ u ∧ u ≤ tt + 4096 * i ∧ Hid ((b && allB f w (l.drop i) u) = allB f w l tt)) ?_ ?_ ?_
          · exact ⟨tt, true, by simp [↓vD, vU, VE.ev, VE.evs, retvs, tupOf, grab, vfill, vbsl, eqCells, eqCell, veqs, veqs1, vmnx, AV.isCell, AV.isUndef, Nat.reduceEqDiff, Nat.reduceAdd, Nat.reduceSub, Nat.reduceLeDiff, Nat.reduceLT, reduceIte, reduceCtorEq, Nat.reduceBEq, k_app, k_slc1], by simp [↓vD, vU, VE.ev, VE.evs, retvs, tupOf, grab, vfill, vbsl, eqCells, eqCell, veqs, veqs1, vmnx, AV.isCell, AV.isUndef, Nat.reduceEqDiff, Nat.reduceAdd, Nat.reduceSub, Nat.reduceLeDiff, Nat.reduceLT, reduceIte, reduceCtorEq, Nat.reduceBEq, k_app, k_slc1], by simp [↓vD, vU, VE.ev, VE.evs, retvs, tupOf, grab, vfill, vbsl, eqCells, eqCell, veqs, veqs1, vmnx, AV.isCell, AV.isUndef, Nat.reduceEqDiff, Nat.reduceAdd, Nat.reduceSub, Nat.reduceLeDiff, Nat.reduceLT, reduceIte, reduceCtorEq, Nat.reduceBEq, k_app, k_slc1], by omega, by omega, ⟨by simp⟩⟩
          · rintro i fr4 hi hwi4 hfr4 hd4 ⟨u, b, h14, h13, h12, hu1, hu2, HU⟩
            obtain ⟨x, hx⟩ : ∃ x, l[i] = x := ⟨_, rfl⟩
            have hxd := HP.out x (by rw [← hx]; exact List.getElem_mem _)
            have hF := hfit u x.d x.v
            have hwu : IntKind.i64.wrap (u + x.d) = u + x.d := wrap_i64 _ (by omega) (by omega)
            have hN : (b && (stepB f w u x && allB f w (l.drop (i + 1)) (u + x.d))) = allB f w l tt := by rw [← HU.out, List.drop_eq_getElem_cons hi, hx, allB]
            unfold stepB at hN
            obtain ⟨q, hq⟩ : ∃ q, fitsF f u x.d x.v = q := ⟨_, rfl⟩
            rw [hq] at hF hN
            have HN2 := Hid.mk hN
            clear hN hq HU
            cases b with
            | false =>
              (repeat' (first | (simp (config := { maxDischargeDepth := 16 }) only [*, Leg.a, vX, Int.reduceLE, Int.reduceLT, Int.reduceGE, Int.reduceGT, Int.reduceBEq, Int.reduceBNe, Int.reduceAdd, Int.reduceSub, Int.reduceMul, Int.reduceNeg, ↓vD, vU, VE.ev, VE.evs, retvs, tupOf, grab, vfill, vbsl, eqCells, eqCell, veqs, veqs1, vmnx, AV.isCell, AV.isUndef, Nat.reduceEqDiff, Nat.reduceAdd, Nat.reduceSub, Nat.reduceLeDiff, Nat.reduceLT, reduceIte, reduceCtorEq, Nat.reduceBEq]) | (simp (disch := first | assumption | omega | exact Seg.len _ | exact Vec.len _ | exact Leg.len _ | exact num_len _ | exact rowA_len _ | exact rowA_len | exact rowT_len _ | exact rowT_len | exact Seg.len | exact Vec.len | exact Leg.len | exact num_len | exact AV.slen _ _ | rfl) only [Leg.a, vP]) | (with_reducible (first | refine gsnd (fun _ => ?_) (fun _ => ?_) | refine csnd (fun _ => ?_) (fun _ => ?_) | refine gsd (fun _ => ?_) (fun _ => ?_) | refine csd (fun _ => ?_) (fun _ => ?_) | refine gsn (fun _ => ?_) (fun _ => ?_) | refine csn (fun _ => ?_) (fun _ => ?_))) | (with_reducible refine gs (fun _ => ?_) (fun _ => ?_)) | (with_reducible refine cs_ (fun _ => ?_) (fun _ => ?_)) | (with_reducible refine objQ_i (fun _ _ => ?_); (repeat (with_reducible refine imp_i (fun _ => ?_)))) | ((try with_reducible refine appK_a ?_); first | (with_reducible refine appD_F (by refine ⟨?_, ?_, ?_, ?_⟩ <;> (first | assumption | omega | exact St.has_add (by assumption) | (simp only [ins_has]; exact St.has_add (by assumption)) | (simp only [ins_has, fresh_ins, kill_ins, add_ins] at *; exact St.has_add (by assumption)) | (simp only [*, ins_has, has_full, St.has_add]; done) | (simp [-List.map_take, -List.map_drop, or_imp, forall_and, Seg.a, Vec.a, Leg.a, num, okEl, cells_agg, cells_int, cells_sl, cells_bool, AV.isCell]; done) | (simp; omega))) (fun _ _ => ?_)) | (with_reducible refine appD_V (by refine ⟨?_, ?_, ?_, ?_, ?_⟩ <;> (first | assumption | omega | exact St.has_add (by assumption) | (simp only [ins_has]; exact St.has_add (by assumption)) | (simp only [ins_has, fresh_ins, kill_ins, add_ins] at *; exact St.has_add (by assumption)) | (simp only [*, ins_has, has_full, St.has_add]; done) | (simp [-List.map_take, -List.map_drop, or_imp, forall_and, Seg.a, Vec.a, Leg.a, num, okEl, cells_agg, cells_int, cells_sl, cells_bool, AV.isCell]; done) | (simp; omega))) (fun _ _ => ?_))) | (with_reducible refine freshQ_i (fun _ _ => ?_)) | (with_reducible refine nilQ_i (fun _ _ => ?_)) | (with_reducible first | refine callH_use (hF) ?_ | refine pureQ_use (hF) ?_)))
              all_goals first | done | exact ⟨_, _, rfl, rfl, by omega, by omega, ⟨by rw [← HN2.out]; simp⟩⟩
            | true =>
              (repeat' (first | (simp (config := { maxDischargeDepth := 16 }) only [*, Leg.a, vX, Int.reduceLE, Int.reduceLT, Int.reduceGE, Int.reduceGT, Int.reduceBEq, Int.reduceBNe, Int.reduceAdd, Int.reduceSub, Int.reduceMul, Int.reduceNeg, ↓vD, vU, VE.ev, VE.evs, retvs, tupOf, grab, vfill, vbsl, eqCells, eqCell, veqs, veqs1, vmnx, AV.isCell, AV.isUndef, Nat.reduceEqDiff, Nat.reduceAdd, Nat.reduceSub, Nat.reduceLeDiff, Nat.reduceLT, reduceIte, reduceCtorEq, Nat.reduceBEq]) | (simp (disch := first | assumption | omega | exact Seg.len _ | exact Vec.len _ | exact Leg.len _ | exact num_len _ | exact rowA_len _ | exact rowA_len | exact rowT_len _ | exact rowT_len | exact Seg.len | exact Vec.len | exact Leg.len | exact num_len | exact AV.slen _ _ | rfl) only [Leg.a, vP]) | (with_reducible (first | refine gsnd (fun _ => ?_) (fun _ => ?_) | refine csnd (fun _ => ?_) (fun _ => ?_) | refine gsd (fun _ => ?_) (fun _ => ?_) | refine csd (fun _ => ?_) (fun _ => ?_) | refine gsn (fun _ => ?_) (fun _ => ?_) | refine csn (fun _ => ?_) (fun _ => ?_))) | (with_reducible refine gs (fun _ => ?_) (fun _ => ?_)) | (with_reducible refine cs_ (fun _ => ?_) (fun _ => ?_)) | (with_reducible refine objQ_i (fun _ _ => ?_); (repeat (with_reducible refine imp_i (fun _ => ?_)))) | ((try with_reducible refine appK_a ?_); first | (with_reducible refine appD_F (by refine ⟨?_, ?_, ?_, ?_⟩ <;> (first | assumption | omega | exact St.has_add (by assumption) | (simp only [ins_has]; exact St.has_add (by assumption)) | (simp only [ins_has, fresh_ins, kill_ins, add_ins] at *; exact St.has_add (by assumption)) | (simp only [*, ins_has, has_full, St.has_add]; done) | (simp [-List.map_take, -List.map_drop, or_imp, forall_and, Seg.a, Vec.a, Leg.a, num, okEl, cells_agg, cells_int, cells_sl, cells_bool, AV.isCell]; done) | (simp; omega))) (fun _ _ => ?_)) | (with_reducible refine appD_V (by refine ⟨?_, ?_, ?_, ?_, ?_⟩ <;> (first | assumption | omega | exact St.has_add (by assumption) | (simp only [ins_has]; exact St.has_add (by assumption)) | (simp only [ins_has, fresh_ins, kill_ins, add_ins] at *; exact St.has_add (by assumption)) | (simp only [*, ins_has, has_full, St.has_add]; done) | (simp [-List.map_take, -List.map_drop, or_imp, forall_and, Seg.a, Vec.a, Leg.a, num, okEl, cells_agg, cells_int, cells_sl, cells_bool, AV.isCell]; done) | (simp; omega))) (fun _ _ => ?_))) | (with_reducible refine freshQ_i (fun _ _ => ?_)) | (with_reducible refine nilQ_i (fun _ _ => ?_)) | (with_reducible first | refine callH_use (hF) ?_ | refine pureQ_use (hF) ?_)))
              all_goals (refine ⟨_, _, rfl, rfl, by omega, by omega, ⟨?_⟩⟩; rw [← HN2.out]; simp [*])
          · rintro fr4 hfr4 hd4 ⟨u, b, h14, h13, h12, hu1, hu2, HU⟩
            rw [List.drop_length, allB, Bool.and_true] at HU
            have hb : b = false := by
              have h1 := HL.out tt t1
              rw [← HU.out] at h1
              cases b
              · rfl
              · exact absurd (h1.1 rfl) HM.out
            subst hb
            clear HU
            (repeat' (first | (simp (config := { maxDischargeDepth := 16 }) only [*, Vec.a, vX, Int.reduceLE, Int.reduceLT, Int.reduceGE, Int.reduceGT, Int.reduceBEq, Int.reduceBNe, Int.reduceAdd, Int.reduceSub, Int.reduceMul, Int.reduceNeg, ↓vD, vU, VE.ev, VE.evs, retvs, tupOf, grab, vfill, vbsl, eqCells, eqCell, veqs, veqs1, vmnx, AV.isCell, AV.isUndef, Nat.reduceEqDiff, Nat.reduceAdd, Nat.reduceSub, Nat.reduceLeDiff, Nat.reduceLT, reduceIte, reduceCtorEq, Nat.reduceBEq]) | (simp (disch := first | assumption | omega | exact Seg.len _ | exact Vec.len _ | exact Leg.len _ | exact num_len _ | exact rowA_len _ | exact rowA_len | exact rowT_len _ | exact rowT_len | exact Seg.len | exact Vec.len | exact Leg.len | exact num_len | exact AV.slen _ _ | rfl) only [Vec.a, vP]) | (with_reducible (first | refine gsnd (fun _ => ?_) (fun _ => ?_) | refine csnd (fun _ => ?_) (fun _ => ?_) | refine gsd (fun _ => ?_) (fun _ => ?_) | refine csd (fun _ => ?_) (fun _ => ?_) | refine gsn (fun _ => ?_) (fun _ => ?_) | refine csn (fun _ => ?_) (fun _ => ?_))) | (with_reducible refine gs (fun _ => ?_) (fun _ => ?_)) | (with_reducible refine cs_ (fun _ => ?_) (fun _ => ?_)) | (with_reducible refine objQ_i (fun _ _ => ?_); (repeat (with_reducible refine imp_i (fun _ => ?_)))) | ((try with_reducible refine appK_a ?_); first | (with_reducible refine appD_F (by refine ⟨?_, ?_, ?_, ?_⟩ <;> (first | assumption | omega | exact St.has_add (by assumption) | (simp only [ins_has]; exact St.has_add (by assumption)) | (simp only [ins_has, fresh_ins, kill_ins, add_ins] at *; exact St.has_add (by assumption)) | (simp only [*, ins_has, has_full, St.has_add]; done) | (simp [-List.map_take, -List.map_drop, or_imp, forall_and, Seg.a, Vec.a, Leg.a, num, okEl, cells_agg, cells_int, cells_sl, cells_bool, AV.isCell]; done) | (simp; omega))) (fun _ _ => ?_)) | (with_reducible refine appD_V (by refine ⟨?_, ?_, ?_, ?_, ?_⟩ <;> (first | assumption | omega | exact St.has_add (by assumption) | (simp only [ins_has]; exact St.has_add (by assumption)) | (simp only [ins_has, fresh_ins, kill_ins, add_ins] at *; exact St.has_add (by assumption)) | (simp only [*, ins_has, has_full, St.has_add]; done) | (simp [-List.map_take, -List.map_drop, or_imp, forall_and, Seg.a, Vec.a, Leg.a, num, okEl, cells_agg, cells_int, cells_sl, cells_bool, AV.isCell]; done) | (simp; omega))) (fun _ _ => ?_))) | (with_reducible refine freshQ_i (fun _ _ => ?_)) | (with_reducible refine nilQ_i (fun _ _ => ?_))))
            all_goals exact ⟨k, by have := HTN.out; omega, rfl, by omega, ⟨fun i hi h => by have := HK.out i hi h; have := HTN.out; omega⟩⟩
    · rintro fr2 hfr2 hd2 ⟨k, h11, h10, hk, HK⟩
      rw [← HN.out] at h11
      (repeat' (first | (simp (config := { maxDischargeDepth := 16 }) only [*, Vec.a, vX, Int.reduceLE, Int.reduceLT, Int.reduceGE, Int.reduceGT, Int.reduceBEq, Int.reduceBNe, Int.reduceAdd, Int.reduceSub, Int.reduceMul, Int.reduceNeg, ↓vD, vU, VE.ev, VE.evs, retvs, tupOf, grab, vfill, vbsl, eqCells, eqCell, veqs, veqs1, vmnx, AV.isCell, AV.isUndef, Nat.reduceEqDiff, Nat.reduceAdd, Nat.reduceSub, Nat.reduceLeDiff, Nat.reduceLT, reduceIte, reduceCtorEq, Nat.reduceBEq]) | (simp (disch := first | assumption | omega | exact Seg.len _ | exact Vec.len _ | exact Leg.len _ | exact num_len _ | exact rowA_len _ | exact rowA_len | exact rowT_len _ | exact rowT_len | exact Seg.len | exact Vec.len | exact Leg.len | exact num_len | exact AV.slen _ _ | rfl) only [Vec.a, vP]) | (with_reducible (first | refine gsnd (fun _ => ?_) (fun _ => ?_) | refine csnd (fun _ => ?_) (fun _ => ?_) | refine gsd (fun _ => ?_) (fun _ => ?_) | refine csd (fun _ => ?_) (fun _ => ?_) | refine gsn (fun _ => ?_) (fun _ => ?_) | refine csn (fun _ => ?_) (fun _ => ?_))) | (with_reducible refine gs (fun _ => ?_) (fun _ => ?_)) | (with_reducible refine cs_ (fun _ => ?_) (fun _ => ?_)) | (with_reducible refine objQ_i (fun _ _ => ?_); (repeat (with_reducible refine imp_i (fun _ => ?_)))) | ((try with_reducible refine appK_a ?_); first | (with_reducible refine appD_F (by refine ⟨?_, ?_, ?_, ?_⟩ <;> (first | assumption | omega | exact St.has_add (by assumption) | (simp only [ins_has]; exact St.has_add (by assumption)) | (simp only [ins_has, fresh_ins, kill_ins, add_ins] at *; exact St.has_add (by assumption)) | (simp only [*, ins_has, has_full, St.has_add]; done) | (simp [-List.map_take, -List.map_drop, or_imp, forall_and, Seg.a, Vec.a, Leg.a, num, okEl, cells_agg, cells_int, cells_sl, cells_bool, AV.isCell]; done) | (simp; omega))) (fun _ _ => ?_)) | (with_reducible refine appD_V (by refine ⟨?_, ?_, ?_, ?_, ?_⟩ <;> (first | assumption | omega | exact St.has_add (by assumption) | (simp only [ins_has]; exact St.has_add (by assumption)) | (simp only [ins_has, fresh_ins, kill_ins, add_ins] at *; exact St.has_add (by assumption)) | (simp only [*, ins_has, has_full, St.has_add]; done) | (simp [-List.map_take, -List.map_drop, or_imp, forall_and, Seg.a, Vec.a, Leg.a, num, okEl, cells_agg, cells_int, cells_sl, cells_bool, AV.isCell]; done) | (simp; omega))) (fun _ _ => ?_))) | (with_reducible refine freshQ_i (fun _ _ => ?_)) | (with_reducible refine nilQ_i (fun _ _ => ?_)) | (with_reducible first | refine callH_use (head_16) ?_ | refine pureQ_use (head_16) ?_)))
      all_goals trace_state
end Go.Proofs.Ytddbnncimggogaa.V
end
