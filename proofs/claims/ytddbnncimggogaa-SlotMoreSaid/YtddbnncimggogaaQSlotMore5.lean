/- Texts of this claim, joined: Cslot2, Cslot4, VXliveryref16, VXliverylaw16, Cslot5, VOpn, Cslot6, Cslot8, Oslot. -/
import Derived.Test.YtddbnncimggogaaQSlotMore4
import Derived.Test.YtddbnncimggogaaQSlotMore1
import Derived.Test.YtddbnncimggogaaProg
import Derived.Test.YtddbnncimggogaaQSlotMore2
import Derived.OpenShut
section
set_option linter.unusedSimpArgs false
set_option linter.unusedVariables false
/- slot.without. -/
namespace Go.Proofs.Ytddbnncimggogaa.V
open Go Go.Proofs
set_option maxRecDepth 100000
set_option maxHeartbeats 4000000
def cutN (x w : Vec) : Nat → List Vec
  | 0 => []
  | 1 => if w.m < min w.c x.m then [⟨w.m, min w.c x.m⟩] else []
  | _ => cutW x w
theorem cutN1 (x w : Vec) : cutN x w 2 = cutN x w 1 ++ (if max w.m x.c < w.c then [⟨max w.m x.c, w.c⟩] else []) := rfl
theorem without_v (l : List Vec) (hl : l.length ≤ 100000000) (t : Tok) (x : Vec) : VPure Try.prog 84 [.sl (l.map Vec.a) t, .agg [.int .i64 x.m, .int .i64 x.c]] (.sl ((withoutF l x).map Vec.a) .no) := by
  refine VPure.tok (fun Z st => ?_)
  refine VCalls.of v_slot_without_ok (Nat.le_of_ble_eq_true rfl) ?_
  simp only [v_slot_without, ↓vD, vU, VE.ev, VE.evs, retvs, tupOf, grab, vfill, vbsl, eqCells, eqCell, veqs, veqs1, vmnx, AV.isCell, AV.isUndef, Nat.reduceEqDiff, Nat.reduceAdd, Nat.reduceSub, Nat.reduceLeDiff, Nat.reduceLT, reduceIte, reduceCtorEq, Nat.reduceBEq, k_app, k_slc1]
  (repeat' (first | (simp (config := { maxDischargeDepth := 16 }) only [*, cut0, vX, Int.reduceLE, Int.reduceLT, Int.reduceGE, Int.reduceGT, Int.reduceBEq, Int.reduceBNe, Int.reduceAdd, Int.reduceSub, Int.reduceMul, Int.reduceNeg, ↓vD, vU, VE.ev, VE.evs, retvs, tupOf, grab, vfill, vbsl, eqCells, eqCell, veqs, veqs1, vmnx, AV.isCell, AV.isUndef, Nat.reduceEqDiff, Nat.reduceAdd, Nat.reduceSub, Nat.reduceLeDiff, Nat.reduceLT, reduceIte, reduceCtorEq, Nat.reduceBEq]) | (simp (disch := first | assumption | omega | exact Seg.len _ | exact Vec.len _ | exact Leg.len _ | exact num_len _ | exact rowA_len _ | exact rowA_len | exact rowT_len _ | exact rowT_len | exact Seg.len | exact Vec.len | exact Leg.len | exact num_len | exact AV.slen _ _ | rfl) only [cut0, vP]) | (with_reducible (first | refine gsnd (fun _ => ?_) (fun _ => ?_) | refine csnd (fun _ => ?_) (fun _ => ?_) | refine gsd (fun _ => ?_) (fun _ => ?_) | refine csd (fun _ => ?_) (fun _ => ?_) | refine gsn (fun _ => ?_) (fun _ => ?_) | refine csn (fun _ => ?_) (fun _ => ?_))) | (with_reducible refine gs (fun _ => ?_) (fun _ => ?_)) | (with_reducible refine cs_ (fun _ => ?_) (fun _ => ?_)) | (with_reducible refine objQ_i (fun _ _ => ?_); (repeat (with_reducible refine imp_i (fun _ => ?_)))) | ((try with_reducible refine appK_a ?_); first | (with_reducible refine appD_F (by refine ⟨?_, ?_, ?_, ?_⟩ <;> (first | assumption | omega | exact St.has_add (by assumption) | (simp only [ins_has]; exact St.has_add (by assumption)) | (simp only [ins_has, fresh_ins, kill_ins, add_ins] at *; exact St.has_add (by assumption)) | (simp only [*, ins_has, has_full, St.has_add]; done) | (simp [-List.map_take, -List.map_drop, or_imp, forall_and, Seg.a, Vec.a, Leg.a, num, okEl, cells_agg, cells_int, cells_sl, cells_bool, AV.isCell]; done) | (simp; omega))) (fun _ _ => ?_)) | (with_reducible refine appD_V (by refine ⟨?_, ?_, ?_, ?_, ?_⟩ <;> (first | assumption | omega | exact St.has_add (by assumption) | (simp only [ins_has]; exact St.has_add (by assumption)) | (simp only [ins_has, fresh_ins, kill_ins, add_ins] at *; exact St.has_add (by assumption)) | (simp only [*, ins_has, has_full, St.has_add]; done) | (simp [-List.map_take, -List.map_drop, or_imp, forall_and, Seg.a, Vec.a, Leg.a, num, okEl, cells_agg, cells_int, cells_sl, cells_bool, AV.isCell]; done) | (simp; omega))) (fun _ _ => ?_))) | (with_reducible refine freshQ_i (fun _ _ => ?_)) | (with_reducible refine nilQ_i (fun _ _ => ?_))))
  rename_i b3 h3
  refine loopf_of (len := l.length) (by simp only [asgL, dsts, List.cons_append, List.nil_append, List.append_nil]; rfl) (by simp only [noR, Bool.and_true, Bool.and_false]; rfl) (by omega) (fun k fr s => ∃ acc tk S, s = S.ins b3 (.cells [.int .i64 x.m, .int .i64 x.c]) ∧ Ours 2 st S tk ∧ fr.t 14 = .int .i64 k ∧ fr.t 5 = .sl (acc.map Vec.a) tk ∧ Hid (acc = withoutF (l.take k) x) ∧ acc.length ≤ 2 * k) ?_ ?_ ?_
  · exact ⟨[], .full, st, rfl, Ours.full 2 st, by simp [↓vD, vU, VE.ev, VE.evs, retvs, tupOf, grab, vfill, vbsl, eqCells, eqCell, veqs, veqs1, vmnx, AV.isCell, AV.isUndef, Nat.reduceEqDiff, Nat.reduceAdd, Nat.reduceSub, Nat.reduceLeDiff, Nat.reduceLT, reduceIte, reduceCtorEq, Nat.reduceBEq, k_app, k_slc1], by simp [↓vD, vU, VE.ev, VE.evs, retvs, tupOf, grab, vfill, vbsl, eqCells, eqCell, veqs, veqs1, vmnx, AV.isCell, AV.isUndef, Nat.reduceEqDiff, Nat.reduceAdd, Nat.reduceSub, Nat.reduceLeDiff, Nat.reduceLT, reduceIte, reduceCtorEq, Nat.reduceBEq, k_app, k_slc1], ⟨rfl⟩, by simp⟩
  · rintro k fr s hk hw hfr hd ⟨acc, tk, S, rfl, ho, h14, h5, HA, hal⟩
    have hb3 : S.objs b3 = none := by rw [ho.objs]; exact h3
    obtain ⟨w, hx⟩ : ∃ w, l[k] = w := ⟨_, rfl⟩
    have HX := Hid.mk hx
    (repeat' (first | (simp (config := { maxDischargeDepth := 16 }) only [*, Vec.a, vX, Int.reduceLE, Int.reduceLT, Int.reduceGE, Int.reduceGT, Int.reduceBEq, Int.reduceBNe, Int.reduceAdd, Int.reduceSub, Int.reduceMul, Int.reduceNeg, ↓vD, vU, VE.ev, VE.evs, retvs, tupOf, grab, vfill, vbsl, eqCells, eqCell, veqs, veqs1, vmnx, AV.isCell, AV.isUndef, Nat.reduceEqDiff, Nat.reduceAdd, Nat.reduceSub, Nat.reduceLeDiff, Nat.reduceLT, reduceIte, reduceCtorEq, Nat.reduceBEq]) | (simp (disch := first | assumption | omega | exact Seg.len _ | exact Vec.len _ | exact Leg.len _ | exact num_len _ | exact rowA_len _ | exact rowA_len | exact rowT_len _ | exact rowT_len | exact Seg.len | exact Vec.len | exact Leg.len | exact num_len | exact AV.slen _ _ | rfl) only [Vec.a, vP]) | (with_reducible (first | refine gsnd (fun _ => ?_) (fun _ => ?_) | refine csnd (fun _ => ?_) (fun _ => ?_) | refine gsd (fun _ => ?_) (fun _ => ?_) | refine csd (fun _ => ?_) (fun _ => ?_) | refine gsn (fun _ => ?_) (fun _ => ?_) | refine csn (fun _ => ?_) (fun _ => ?_))) | (with_reducible refine gs (fun _ => ?_) (fun _ => ?_)) | (with_reducible refine cs_ (fun _ => ?_) (fun _ => ?_)) | (with_reducible refine objQ_i (fun _ _ => ?_); (repeat (with_reducible refine imp_i (fun _ => ?_)))) | ((try with_reducible refine appK_a ?_); first | (with_reducible refine appD_F (by refine ⟨?_, ?_, ?_, ?_⟩ <;> (first | assumption | omega | exact St.has_add (by assumption) | (simp only [ins_has]; exact St.has_add (by assumption)) | (simp only [ins_has, fresh_ins, kill_ins, add_ins] at *; exact St.has_add (by assumption)) | (simp only [*, ins_has, has_full, St.has_add]; done) | (simp [-List.map_take, -List.map_drop, or_imp, forall_and, Seg.a, Vec.a, Leg.a, num, okEl, cells_agg, cells_int, cells_sl, cells_bool, AV.isCell]; done) | (simp; omega))) (fun _ _ => ?_)) | (with_reducible refine appD_V (by refine ⟨?_, ?_, ?_, ?_, ?_⟩ <;> (first | assumption | omega | exact St.has_add (by assumption) | (simp only [ins_has]; exact St.has_add (by assumption)) | (simp only [ins_has, fresh_ins, kill_ins, add_ins] at *; exact St.has_add (by assumption)) | (simp only [*, ins_has, has_full, St.has_add]; done) | (simp [-List.map_take, -List.map_drop, or_imp, forall_and, Seg.a, Vec.a, Leg.a, num, okEl, cells_agg, cells_int, cells_sl, cells_bool, AV.isCell]; done) | (simp; omega))) (fun _ _ => ?_))) | (with_reducible refine freshQ_i (fun _ _ => ?_)) | (with_reducible refine nilQ_i (fun _ _ => ?_))))
    rename_i b7 h7 n73 n37
    refine loopf_of (len := 2) (by simp only [asgL, dsts, List.cons_append, List.nil_append, List.append_nil]; rfl) (by simp only [noR, Bool.and_true, Bool.and_false]; rfl) (by omega) (fun j fr2 s2 => ∃ acc2 tk2 S2, s2 = (S2.ins b3 (.cells [.int .i64 x.m, .int .i64 x.c])).ins b7 (.cells [.int .i64 w.m, .int .i64 w.c]) ∧ Ours 2 st S2 tk2 ∧ fr2.t 35 = .int .i64 j ∧ fr2.t 5 = .sl (acc2.map Vec.a) tk2 ∧ Hid (acc2 = acc ++ cutN x w j) ∧ acc2.length ≤ 2 * k + j) ?_ ?_ ?_
    · exact ⟨acc, tk, S, rfl, ho, by simp [↓vD, vU, VE.ev, VE.evs, retvs, tupOf, grab, vfill, vbsl, eqCells, eqCell, veqs, veqs1, vmnx, AV.isCell, AV.isUndef, Nat.reduceEqDiff, Nat.reduceAdd, Nat.reduceSub, Nat.reduceLeDiff, Nat.reduceLT, reduceIte, reduceCtorEq, Nat.reduceBEq, k_app, k_slc1], by simp [↓vD, vU, VE.ev, VE.evs, retvs, tupOf, grab, vfill, vbsl, eqCells, eqCell, veqs, veqs1, vmnx, AV.isCell, AV.isUndef, Nat.reduceEqDiff, Nat.reduceAdd, Nat.reduceSub, Nat.reduceLeDiff, Nat.reduceLT, reduceIte, reduceCtorEq, Nat.reduceBEq, k_app, k_slc1, *], ⟨by simp [cutN]⟩, by omega⟩
    · rintro j fr2 s2 hj hw2 hfr2 hd2 ⟨acc2, tk2, S2, rfl, ho2, h35, h52, HA2, hal2⟩
      have hts := ho2.has
      have hob : S2.objs = S.objs := ho2.objs.trans ho.objs.symm
      have h3' : S2.objs b3 = none := by rw [hob]; exact hb3
      have h7' : S2.objs b7 = none := by rw [hob]; exact h7
      rcases (by omega : j = 0 ∨ j = 1) with rfl | rfl
      · simp only [Int.cast_ofNat_Int, Int.natCast_zero] at hw2 h35
        (repeat' (first | (simp (config := { maxDischargeDepth := 16 }) only [*, Vec.a, grab01, vX, Int.reduceLE, Int.reduceLT, Int.reduceGE, Int.reduceGT, Int.reduceBEq, Int.reduceBNe, Int.reduceAdd, Int.reduceSub, Int.reduceMul, Int.reduceNeg, ↓vD, vU, VE.ev, VE.evs, retvs, tupOf, grab, vfill, vbsl, eqCells, eqCell, veqs, veqs1, vmnx, AV.isCell, AV.isUndef, Nat.reduceEqDiff, Nat.reduceAdd, Nat.reduceSub, Nat.reduceLeDiff, Nat.reduceLT, reduceIte, reduceCtorEq, Nat.reduceBEq]) | (simp (disch := first | assumption | omega | exact Seg.len _ | exact Vec.len _ | exact Leg.len _ | exact num_len _ | exact rowA_len _ | exact rowA_len | exact rowT_len _ | exact rowT_len | exact Seg.len | exact Vec.len | exact Leg.len | exact num_len | exact AV.slen _ _ | rfl) only [Vec.a, grab01, vP]) | (with_reducible (first | refine gsnd (fun _ => ?_) (fun _ => ?_) | refine csnd (fun _ => ?_) (fun _ => ?_) | refine gsd (fun _ => ?_) (fun _ => ?_) | refine csd (fun _ => ?_) (fun _ => ?_) | refine gsn (fun _ => ?_) (fun _ => ?_) | refine csn (fun _ => ?_) (fun _ => ?_))) | (with_reducible refine gs (fun _ => ?_) (fun _ => ?_)) | (with_reducible refine cs_ (fun _ => ?_) (fun _ => ?_)) | (with_reducible refine objQ_i (fun _ _ => ?_); (repeat (with_reducible refine imp_i (fun _ => ?_)))) | ((try with_reducible refine appK_a ?_); first | (with_reducible refine appD_F (by refine ⟨?_, ?_, ?_, ?_⟩ <;> (first | assumption | omega | exact St.has_add (by assumption) | (simp only [ins_has]; exact St.has_add (by assumption)) | (simp only [ins_has, fresh_ins, kill_ins, add_ins] at *; exact St.has_add (by assumption)) | (simp only [*, ins_has, has_full, St.has_add]; done) | (simp [-List.map_take, -List.map_drop, or_imp, forall_and, Seg.a, Vec.a, Leg.a, num, okEl, cells_agg, cells_int, cells_sl, cells_bool, AV.isCell]; done) | (simp; omega))) (fun _ _ => ?_)) | (with_reducible refine appD_V (by refine ⟨?_, ?_, ?_, ?_, ?_⟩ <;> (first | assumption | omega | exact St.has_add (by assumption) | (simp only [ins_has]; exact St.has_add (by assumption)) | (simp only [ins_has, fresh_ins, kill_ins, add_ins] at *; exact St.has_add (by assumption)) | (simp only [*, ins_has, has_full, St.has_add]; done) | (simp [-List.map_take, -List.map_drop, or_imp, forall_and, Seg.a, Vec.a, Leg.a, num, okEl, cells_agg, cells_int, cells_sl, cells_bool, AV.isCell]; done) | (simp; omega))) (fun _ _ => ?_))) | (with_reducible refine freshQ_i (fun _ _ => ?_)) | (with_reducible refine nilQ_i (fun _ _ => ?_))))
        · rename_i b9 h9 n1 n2 n3 n4 hc t1 hf
          have ho3 := ho2.next (t' := t1) (by simpa only [kill_ins, fresh_ins] using hf)
          refine ⟨_, by (refine ⟨fun i o e => ?_, fun _ h => h⟩; revert e; simp only [St.ins, St.del, add_objs, kill_objs]; (repeat' split); all_goals (first | exact id | (intros; contradiction) | (intros; subst_vars; contradiction) | (intros; simp_all; done) | (intros; subst_vars; simp_all; done))), acc2 ++ [⟨w.m, min w.c x.m⟩], t1, _, rfl, ho3, by simp [Vec.a], ⟨?_⟩, by simp; omega⟩
          rw [HA2.out]; simp [cutN, hc]
        · rename_i b9 h9 n1 n2 n3 n4 hc
          refine ⟨_, by (refine ⟨fun i o e => ?_, fun _ h => h⟩; revert e; simp only [St.ins, St.del, add_objs, kill_objs]; (repeat' split); all_goals (first | exact id | (intros; contradiction) | (intros; subst_vars; contradiction) | (intros; simp_all; done) | (intros; subst_vars; simp_all; done))), acc2, tk2, _, rfl, ho2, rfl, ⟨?_⟩, by omega⟩
          rw [HA2.out]; simp [cutN, hc]
      · simp only [Int.cast_ofNat_Int, Int.natCast_one] at hw2 h35
        (repeat' (first | (simp (config := { maxDischargeDepth := 16 }) only [*, Vec.a, grab23, vX, Int.reduceLE, Int.reduceLT, Int.reduceGE, Int.reduceGT, Int.reduceBEq, Int.reduceBNe, Int.reduceAdd, Int.reduceSub, Int.reduceMul, Int.reduceNeg, ↓vD, vU, VE.ev, VE.evs, retvs, tupOf, grab, vfill, vbsl, eqCells, eqCell, veqs, veqs1, vmnx, AV.isCell, AV.isUndef, Nat.reduceEqDiff, Nat.reduceAdd, Nat.reduceSub, Nat.reduceLeDiff, Nat.reduceLT, reduceIte, reduceCtorEq, Nat.reduceBEq]) | (simp (disch := first | assumption | omega | exact Seg.len _ | exact Vec.len _ | exact Leg.len _ | exact num_len _ | exact rowA_len _ | exact rowA_len | exact rowT_len _ | exact rowT_len | exact Seg.len | exact Vec.len | exact Leg.len | exact num_len | exact AV.slen _ _ | rfl) only [Vec.a, grab23, vP]) | (with_reducible (first | refine gsnd (fun _ => ?_) (fun _ => ?_) | refine csnd (fun _ => ?_) (fun _ => ?_) | refine gsd (fun _ => ?_) (fun _ => ?_) | refine csd (fun _ => ?_) (fun _ => ?_) | refine gsn (fun _ => ?_) (fun _ => ?_) | refine csn (fun _ => ?_) (fun _ => ?_))) | (with_reducible refine gs (fun _ => ?_) (fun _ => ?_)) | (with_reducible refine cs_ (fun _ => ?_) (fun _ => ?_)) | (with_reducible refine objQ_i (fun _ _ => ?_); (repeat (with_reducible refine imp_i (fun _ => ?_)))) | ((try with_reducible refine appK_a ?_); first | (with_reducible refine appD_F (by refine ⟨?_, ?_, ?_, ?_⟩ <;> (first | assumption | omega | exact St.has_add (by assumption) | (simp only [ins_has]; exact St.has_add (by assumption)) | (simp only [ins_has, fresh_ins, kill_ins, add_ins] at *; exact St.has_add (by assumption)) | (simp only [*, ins_has, has_full, St.has_add]; done) | (simp [-List.map_take, -List.map_drop, or_imp, forall_and, Seg.a, Vec.a, Leg.a, num, okEl, cells_agg, cells_int, cells_sl, cells_bool, AV.isCell]; done) | (simp; omega))) (fun _ _ => ?_)) | (with_reducible refine appD_V (by refine ⟨?_, ?_, ?_, ?_, ?_⟩ <;> (first | assumption | omega | exact St.has_add (by assumption) | (simp only [ins_has]; exact St.has_add (by assumption)) | (simp only [ins_has, fresh_ins, kill_ins, add_ins] at *; exact St.has_add (by assumption)) | (simp only [*, ins_has, has_full, St.has_add]; done) | (simp [-List.map_take, -List.map_drop, or_imp, forall_and, Seg.a, Vec.a, Leg.a, num, okEl, cells_agg, cells_int, cells_sl, cells_bool, AV.isCell]; done) | (simp; omega))) (fun _ _ => ?_))) | (with_reducible refine freshQ_i (fun _ _ => ?_)) | (with_reducible refine nilQ_i (fun _ _ => ?_))))
        · rename_i b9 h9 n1 n2 n3 n4 hc t1 hf
          have ho3 := ho2.next (t' := t1) (by simpa only [kill_ins, fresh_ins] using hf)
          refine ⟨_, by (refine ⟨fun i o e => ?_, fun _ h => h⟩; revert e; simp only [St.ins, St.del, add_objs, kill_objs]; (repeat' split); all_goals (first | exact id | (intros; contradiction) | (intros; subst_vars; contradiction) | (intros; simp_all; done) | (intros; subst_vars; simp_all; done))), acc2 ++ [⟨max w.m x.c, w.c⟩], t1, _, rfl, ho3, by simp [Vec.a], ⟨?_⟩, by simp; omega⟩
          rw [HA2.out, cutN1, if_pos hc, List.append_assoc]
        · rename_i b9 h9 n1 n2 n3 n4 hc
          refine ⟨_, by (refine ⟨fun i o e => ?_, fun _ h => h⟩; revert e; simp only [St.ins, St.del, add_objs, kill_objs]; (repeat' split); all_goals (first | exact id | (intros; contradiction) | (intros; subst_vars; contradiction) | (intros; simp_all; done) | (intros; subst_vars; simp_all; done))), acc2, tk2, _, rfl, ho2, rfl, ⟨?_⟩, by omega⟩
          rw [HA2.out, cutN1, if_neg hc, List.append_nil]
    · rintro fr2 s2 hfr2 hd2 ⟨acc2, tk2, S2, rfl, ho2, h35, h52, HA2, hal2⟩
      have hob : S2.objs = S.objs := ho2.objs.trans ho.objs.symm
      have h3' : S2.objs b3 = none := by rw [hob]; exact hb3
      have h7' : S2.objs b7 = none := by rw [hob]; exact h7
      (repeat' (first | (simp (config := { maxDischargeDepth := 16 }) only [*, Vec.a, vX, Int.reduceLE, Int.reduceLT, Int.reduceGE, Int.reduceGT, Int.reduceBEq, Int.reduceBNe, Int.reduceAdd, Int.reduceSub, Int.reduceMul, Int.reduceNeg, ↓vD, vU, VE.ev, VE.evs, retvs, tupOf, grab, vfill, vbsl, eqCells, eqCell, veqs, veqs1, vmnx, AV.isCell, AV.isUndef, Nat.reduceEqDiff, Nat.reduceAdd, Nat.reduceSub, Nat.reduceLeDiff, Nat.reduceLT, reduceIte, reduceCtorEq, Nat.reduceBEq]) | (simp (disch := first | assumption | omega | exact Seg.len _ | exact Vec.len _ | exact Leg.len _ | exact num_len _ | exact rowA_len _ | exact rowA_len | exact rowT_len _ | exact rowT_len | exact Seg.len | exact Vec.len | exact Leg.len | exact num_len | exact AV.slen _ _ | rfl) only [Vec.a, vP]) | (with_reducible (first | refine gsnd (fun _ => ?_) (fun _ => ?_) | refine csnd (fun _ => ?_) (fun _ => ?_) | refine gsd (fun _ => ?_) (fun _ => ?_) | refine csd (fun _ => ?_) (fun _ => ?_) | refine gsn (fun _ => ?_) (fun _ => ?_) | refine csn (fun _ => ?_) (fun _ => ?_))) | (with_reducible refine gs (fun _ => ?_) (fun _ => ?_)) | (with_reducible refine cs_ (fun _ => ?_) (fun _ => ?_)) | (with_reducible refine objQ_i (fun _ _ => ?_); (repeat (with_reducible refine imp_i (fun _ => ?_)))) | ((try with_reducible refine appK_a ?_); first | (with_reducible refine appD_F (by refine ⟨?_, ?_, ?_, ?_⟩ <;> (first | assumption | omega | exact St.has_add (by assumption) | (simp only [ins_has]; exact St.has_add (by assumption)) | (simp only [ins_has, fresh_ins, kill_ins, add_ins] at *; exact St.has_add (by assumption)) | (simp only [*, ins_has, has_full, St.has_add]; done) | (simp [-List.map_take, -List.map_drop, or_imp, forall_and, Seg.a, Vec.a, Leg.a, num, okEl, cells_agg, cells_int, cells_sl, cells_bool, AV.isCell]; done) | (simp; omega))) (fun _ _ => ?_)) | (with_reducible refine appD_V (by refine ⟨?_, ?_, ?_, ?_, ?_⟩ <;> (first | assumption | omega | exact St.has_add (by assumption) | (simp only [ins_has]; exact St.has_add (by assumption)) | (simp only [ins_has, fresh_ins, kill_ins, add_ins] at *; exact St.has_add (by assumption)) | (simp only [*, ins_has, has_full, St.has_add]; done) | (simp [-List.map_take, -List.map_drop, or_imp, forall_and, Seg.a, Vec.a, Leg.a, num, okEl, cells_agg, cells_int, cells_sl, cells_bool, AV.isCell]; done) | (simp; omega))) (fun _ _ => ?_))) | (with_reducible refine freshQ_i (fun _ _ => ?_)) | (with_reducible refine nilQ_i (fun _ _ => ?_))))
      refine ⟨_, by (refine ⟨fun i o e => ?_, fun _ h => h⟩; revert e; simp only [St.ins, St.del, add_objs, kill_objs]; (repeat' split); all_goals (first | exact id | (intros; contradiction) | (intros; subst_vars; contradiction) | (intros; simp_all; done) | (intros; subst_vars; simp_all; done))), acc2, tk2, S2, rfl, ho2, rfl, ⟨?_⟩, by omega⟩
      rw [HA2.out, HA.out, withoutF_take hk, HX.out]; rfl
  · rintro fr s hfr hd ⟨acc, tk, S, rfl, ho, h14, h5, HA, hal⟩
    have hb3 : S.objs b3 = none := by rw [ho.objs]; exact h3
    have hun := ho.under
    (repeat' (first | (simp (config := { maxDischargeDepth := 16 }) only [*, vX, Int.reduceLE, Int.reduceLT, Int.reduceGE, Int.reduceGT, Int.reduceBEq, Int.reduceBNe, Int.reduceAdd, Int.reduceSub, Int.reduceMul, Int.reduceNeg, ↓vD, vU, VE.ev, VE.evs, retvs, tupOf, grab, vfill, vbsl, eqCells, eqCell, veqs, veqs1, vmnx, AV.isCell, AV.isUndef, Nat.reduceEqDiff, Nat.reduceAdd, Nat.reduceSub, Nat.reduceLeDiff, Nat.reduceLT, reduceIte, reduceCtorEq, Nat.reduceBEq]) | (simp (disch := first | assumption | omega | exact Seg.len _ | exact Vec.len _ | exact Leg.len _ | exact num_len _ | exact rowA_len _ | exact rowA_len | exact rowT_len _ | exact rowT_len | exact Seg.len | exact Vec.len | exact Leg.len | exact num_len | exact AV.slen _ _ | rfl) only [vP]) | (with_reducible (first | refine gsnd (fun _ => ?_) (fun _ => ?_) | refine csnd (fun _ => ?_) (fun _ => ?_) | refine gsd (fun _ => ?_) (fun _ => ?_) | refine csd (fun _ => ?_) (fun _ => ?_) | refine gsn (fun _ => ?_) (fun _ => ?_) | refine csn (fun _ => ?_) (fun _ => ?_))) | (with_reducible refine gs (fun _ => ?_) (fun _ => ?_)) | (with_reducible refine cs_ (fun _ => ?_) (fun _ => ?_)) | (with_reducible refine objQ_i (fun _ _ => ?_); (repeat (with_reducible refine imp_i (fun _ => ?_)))) | ((try with_reducible refine appK_a ?_); first | (with_reducible refine appD_F (by refine ⟨?_, ?_, ?_, ?_⟩ <;> (first | assumption | omega | exact St.has_add (by assumption) | (simp only [ins_has]; exact St.has_add (by assumption)) | (simp only [ins_has, fresh_ins, kill_ins, add_ins] at *; exact St.has_add (by assumption)) | (simp only [*, ins_has, has_full, St.has_add]; done) | (simp [-List.map_take, -List.map_drop, or_imp, forall_and, Seg.a, Vec.a, Leg.a, num, okEl, cells_agg, cells_int, cells_sl, cells_bool, AV.isCell]; done) | (simp; omega))) (fun _ _ => ?_)) | (with_reducible refine appD_V (by refine ⟨?_, ?_, ?_, ?_, ?_⟩ <;> (first | assumption | omega | exact St.has_add (by assumption) | (simp only [ins_has]; exact St.has_add (by assumption)) | (simp only [ins_has, fresh_ins, kill_ins, add_ins] at *; exact St.has_add (by assumption)) | (simp only [*, ins_has, has_full, St.has_add]; done) | (simp [-List.map_take, -List.map_drop, or_imp, forall_and, Seg.a, Vec.a, Leg.a, num, okEl, cells_agg, cells_int, cells_sl, cells_bool, AV.isCell]; done) | (simp; omega))) (fun _ _ => ?_))) | (with_reducible refine freshQ_i (fun _ _ => ?_)) | (with_reducible refine nilQ_i (fun _ _ => ?_))))
    refine ⟨st, hun.trans (by (refine ⟨fun i o e => ?_, fun _ h => h⟩; revert e; simp only [St.ins, St.del, add_objs, kill_objs]; (repeat' split); all_goals (first | exact id | (intros; contradiction) | (intros; subst_vars; contradiction) | (intros; simp_all; done) | (intros; subst_vars; simp_all; done)))), tk, ?_, rfl⟩
    rw [HA.out, List.take_length]
end Go.Proofs.Ytddbnncimggogaa.V
end
section
set_option linter.unusedSimpArgs false
set_option linter.unusedVariables false
/- slot.Begins. -/
namespace Go.Proofs.Ytddbnncimggogaa.V
open Go Go.Proofs
set_option maxRecDepth 100000
set_option maxHeartbeats 4000000
theorem Begins_c (f : List Seg) (hf : f.length ≤ 1000000) (w : Vec) (h1 : -9223372036854775808 ≤ w.m) (h2 : w.c ≤ 9223372036854775807) (l : List Leg) (hl : l.length ≤ 1000000000) (t t' : Tok) :
    VPure Try.prog 42 [.sl (f.map Seg.a) t, .agg [.int .i64 w.m, .int .i64 w.c], .sl (l.map Leg.a) t'] (.tup [.sl ((beginsF f w l).1.map Vec.a) .no, num (beginsF f w l).2]) := by
  refine VPure.tokT (fun Z st => ?_)
  have hck := check_v f (by omega) w h1 h2 l hl t t'
  obtain ⟨q, hq⟩ : ∃ q, checkF f w l = q := ⟨_, rfl⟩
  rw [hq] at hck
  unfold num at hck
  by_cases hok : q.2 = 0
  case neg =>
    have HB : Hid (beginsF f w l = ([], q.2)) := ⟨by unfold beginsF; rw [hq, if_pos (.inl hok)]⟩
    clear hq
    refine VCalls.of v_slot_Begins_ok (Nat.le_of_ble_eq_true rfl) ?_
    simp only [v_slot_Begins, ↓vD, vU, VE.ev, VE.evs, retvs, tupOf, grab, vfill, vbsl, eqCells, eqCell, veqs, veqs1, vmnx, AV.isCell, AV.isUndef, Nat.reduceEqDiff, Nat.reduceAdd, Nat.reduceSub, Nat.reduceLeDiff, Nat.reduceLT, reduceIte, reduceCtorEq, Nat.reduceBEq, k_app, k_slc1]
    (repeat' (first | (simp (config := { maxDischargeDepth := 16 }) only [*, vX, Int.reduceLE, Int.reduceLT, Int.reduceGE, Int.reduceGT, Int.reduceBEq, Int.reduceBNe, Int.reduceAdd, Int.reduceSub, Int.reduceMul, Int.reduceNeg, ↓vD, vU, VE.ev, VE.evs, retvs, tupOf, grab, vfill, vbsl, eqCells, eqCell, veqs, veqs1, vmnx, AV.isCell, AV.isUndef, Nat.reduceEqDiff, Nat.reduceAdd, Nat.reduceSub, Nat.reduceLeDiff, Nat.reduceLT, reduceIte, reduceCtorEq, Nat.reduceBEq]) | (simp (disch := first | assumption | omega | exact Seg.len _ | exact Vec.len _ | exact Leg.len _ | exact num_len _ | exact rowA_len _ | exact rowA_len | exact rowT_len _ | exact rowT_len | exact Seg.len | exact Vec.len | exact Leg.len | exact num_len | exact AV.slen _ _ | rfl) only [vP]) | (with_reducible (first | refine gsnd (fun _ => ?_) (fun _ => ?_) | refine csnd (fun _ => ?_) (fun _ => ?_) | refine gsd (fun _ => ?_) (fun _ => ?_) | refine csd (fun _ => ?_) (fun _ => ?_) | refine gsn (fun _ => ?_) (fun _ => ?_) | refine csn (fun _ => ?_) (fun _ => ?_))) | (with_reducible refine gs (fun _ => ?_) (fun _ => ?_)) | (with_reducible refine cs_ (fun _ => ?_) (fun _ => ?_)) | (with_reducible refine objQ_i (fun _ _ => ?_); (repeat (with_reducible refine imp_i (fun _ => ?_)))) | ((try with_reducible refine appK_a ?_); first | (with_reducible refine appD_F (by refine ⟨?_, ?_, ?_, ?_⟩ <;> (first | assumption | omega | exact St.has_add (by assumption) | (simp only [ins_has]; exact St.has_add (by assumption)) | (simp only [ins_has, fresh_ins, kill_ins, add_ins] at *; exact St.has_add (by assumption)) | (simp only [*, ins_has, has_full, St.has_add]; done) | (simp [-List.map_take, -List.map_drop, or_imp, forall_and, Seg.a, Vec.a, Leg.a, num, okEl, cells_agg, cells_int, cells_sl, cells_bool, AV.isCell]; done) | (simp; omega))) (fun _ _ => ?_)) | (with_reducible refine appD_V (by refine ⟨?_, ?_, ?_, ?_, ?_⟩ <;> (first | assumption | omega | exact St.has_add (by assumption) | (simp only [ins_has]; exact St.has_add (by assumption)) | (simp only [ins_has, fresh_ins, kill_ins, add_ins] at *; exact St.has_add (by assumption)) | (simp only [*, ins_has, has_full, St.has_add]; done) | (simp [-List.map_take, -List.map_drop, or_imp, forall_and, Seg.a, Vec.a, Leg.a, num, okEl, cells_agg, cells_int, cells_sl, cells_bool, AV.isCell]; done) | (simp; omega))) (fun _ _ => ?_))) | (with_reducible refine freshQ_i (fun _ _ => ?_)) | (with_reducible refine nilQ_i (fun _ _ => ?_)) | (with_reducible first | refine callH_use (hck) ?_ | refine pureQ_use (hck) ?_)))
    exact ⟨st, by (refine ⟨fun i o e => ?_, fun _ h => h⟩; revert e; simp only [St.ins, St.del, add_objs, kill_objs]; (repeat' split); all_goals (first | exact id | (intros; contradiction) | (intros; subst_vars; contradiction) | (intros; simp_all; done) | (intros; subst_vars; simp_all; done))), .full, by rw [HB.out]; rfl, rfl⟩
  have hO := check_ok.1 (by rw [hq]; exact hok)
  have hs := check_1 hO
  rw [hq] at hs
  obtain ⟨n, hn⟩ : ∃ n, sumD l = n := ⟨_, rfl⟩
  rw [hn] at hs
  have HBn : Hid (beginsF f w l = if w.c - w.m < n then ([], 0) else (legsF f w l 0 [⟨w.m, w.c - n + 1⟩], 0)) := ⟨by unfold beginsF; rw [hq, hs]; simp⟩
  subst hs
  simp only at hck
  have hn0 : 0 ≤ n := by
    rw [← hn]
    have := hO.pos
    clear hO hq hn HBn hck
    induction l with
    | nil => simp [sumD]
    | cons x r ih => have h3 := ih (by simp at hl; omega) (fun y hy => this y (by simp [hy])); have h4 := this x (by simp); simp only [sumD]; omega
  have hw := hO.win
  have hsp := hO.span
  have hfr := hO.from_
  have hto := hO.to_
  simp only [farF, Bool.or_eq_false_iff, decide_eq_false_iff_not] at hfr hto
  obtain ⟨hf1, hf2⟩ := hfr
  obtain ⟨ht1, ht2⟩ := hto
  have hl16 := hO.len.2
  have HO := Hid.mk hO
  clear hq hn hok hO
  by_cases hbig : w.c - w.m < n
  · have hb2 : IntKind.i64.wrap (w.c - w.m) = w.c - w.m := wrap_i64 _ (by omega) (by omega)
    refine VCalls.of v_slot_Begins_ok (Nat.le_of_ble_eq_true rfl) ?_
    simp only [v_slot_Begins, ↓vD, vU, VE.ev, VE.evs, retvs, tupOf, grab, vfill, vbsl, eqCells, eqCell, veqs, veqs1, vmnx, AV.isCell, AV.isUndef, Nat.reduceEqDiff, Nat.reduceAdd, Nat.reduceSub, Nat.reduceLeDiff, Nat.reduceLT, reduceIte, reduceCtorEq, Nat.reduceBEq, k_app, k_slc1]
    (repeat' (first | (simp (config := { maxDischargeDepth := 16 }) only [*, vX, Int.reduceLE, Int.reduceLT, Int.reduceGE, Int.reduceGT, Int.reduceBEq, Int.reduceBNe, Int.reduceAdd, Int.reduceSub, Int.reduceMul, Int.reduceNeg, ↓vD, vU, VE.ev, VE.evs, retvs, tupOf, grab, vfill, vbsl, eqCells, eqCell, veqs, veqs1, vmnx, AV.isCell, AV.isUndef, Nat.reduceEqDiff, Nat.reduceAdd, Nat.reduceSub, Nat.reduceLeDiff, Nat.reduceLT, reduceIte, reduceCtorEq, Nat.reduceBEq]) | (simp (disch := first | assumption | omega | exact Seg.len _ | exact Vec.len _ | exact Leg.len _ | exact num_len _ | exact rowA_len _ | exact rowA_len | exact rowT_len _ | exact rowT_len | exact Seg.len | exact Vec.len | exact Leg.len | exact num_len | exact AV.slen _ _ | rfl) only [vP]) | (with_reducible (first | refine gsnd (fun _ => ?_) (fun _ => ?_) | refine csnd (fun _ => ?_) (fun _ => ?_) | refine gsd (fun _ => ?_) (fun _ => ?_) | refine csd (fun _ => ?_) (fun _ => ?_) | refine gsn (fun _ => ?_) (fun _ => ?_) | refine csn (fun _ => ?_) (fun _ => ?_))) | (with_reducible refine gs (fun _ => ?_) (fun _ => ?_)) | (with_reducible refine cs_ (fun _ => ?_) (fun _ => ?_)) | (with_reducible refine objQ_i (fun _ _ => ?_); (repeat (with_reducible refine imp_i (fun _ => ?_)))) | ((try with_reducible refine appK_a ?_); first | (with_reducible refine appD_F (by refine ⟨?_, ?_, ?_, ?_⟩ <;> (first | assumption | omega | exact St.has_add (by assumption) | (simp only [ins_has]; exact St.has_add (by assumption)) | (simp only [ins_has, fresh_ins, kill_ins, add_ins] at *; exact St.has_add (by assumption)) | (simp only [*, ins_has, has_full, St.has_add]; done) | (simp [-List.map_take, -List.map_drop, or_imp, forall_and, Seg.a, Vec.a, Leg.a, num, okEl, cells_agg, cells_int, cells_sl, cells_bool, AV.isCell]; done) | (simp; omega))) (fun _ _ => ?_)) | (with_reducible refine appD_V (by refine ⟨?_, ?_, ?_, ?_, ?_⟩ <;> (first | assumption | omega | exact St.has_add (by assumption) | (simp only [ins_has]; exact St.has_add (by assumption)) | (simp only [ins_has, fresh_ins, kill_ins, add_ins] at *; exact St.has_add (by assumption)) | (simp only [*, ins_has, has_full, St.has_add]; done) | (simp [-List.map_take, -List.map_drop, or_imp, forall_and, Seg.a, Vec.a, Leg.a, num, okEl, cells_agg, cells_int, cells_sl, cells_bool, AV.isCell]; done) | (simp; omega))) (fun _ _ => ?_))) | (with_reducible refine freshQ_i (fun _ _ => ?_)) | (with_reducible refine nilQ_i (fun _ _ => ?_)) | (with_reducible first | refine callH_use (hck) ?_ | refine pureQ_use (hck) ?_)))
    exact ⟨st, by (refine ⟨fun i o e => ?_, fun _ h => h⟩; revert e; simp only [St.ins, St.del, add_objs, kill_objs]; (repeat' split); all_goals (first | exact id | (intros; contradiction) | (intros; subst_vars; contradiction) | (intros; simp_all; done) | (intros; subst_vars; simp_all; done))), .full, by rw [HBn.out, if_pos hbig]; rfl, rfl⟩
  have HB : Hid (beginsF f w l = (legsF f w l 0 [⟨w.m, w.c - n + 1⟩], 0)) := ⟨by rw [HBn.out, if_neg hbig]⟩
  clear HBn
  have hb2 : IntKind.i64.wrap (w.c - w.m) = w.c - w.m := wrap_i64 _ (by omega) (by omega)
  refine VCalls.of v_slot_Begins_ok (Nat.le_of_ble_eq_true rfl) ?_
  simp only [v_slot_Begins, ↓vD, vU, VE.ev, VE.evs, retvs, tupOf, grab, vfill, vbsl, eqCells, eqCell, veqs, veqs1, vmnx, AV.isCell, AV.isUndef, Nat.reduceEqDiff, Nat.reduceAdd, Nat.reduceSub, Nat.reduceLeDiff, Nat.reduceLT, reduceIte, reduceCtorEq, Nat.reduceBEq, k_app, k_slc1]
  (repeat' (first | (simp (config := { maxDischargeDepth := 16 }) only [*, vX, Int.reduceLE, Int.reduceLT, Int.reduceGE, Int.reduceGT, Int.reduceBEq, Int.reduceBNe, Int.reduceAdd, Int.reduceSub, Int.reduceMul, Int.reduceNeg, ↓vD, vU, VE.ev, VE.evs, retvs, tupOf, grab, vfill, vbsl, eqCells, eqCell, veqs, veqs1, vmnx, AV.isCell, AV.isUndef, Nat.reduceEqDiff, Nat.reduceAdd, Nat.reduceSub, Nat.reduceLeDiff, Nat.reduceLT, reduceIte, reduceCtorEq, Nat.reduceBEq]) | (simp (disch := first | assumption | omega | exact Seg.len _ | exact Vec.len _ | exact Leg.len _ | exact num_len _ | exact rowA_len _ | exact rowA_len | exact rowT_len _ | exact rowT_len | exact Seg.len | exact Vec.len | exact Leg.len | exact num_len | exact AV.slen _ _ | rfl) only [vP]) | (with_reducible (first | refine gsnd (fun _ => ?_) (fun _ => ?_) | refine csnd (fun _ => ?_) (fun _ => ?_) | refine gsd (fun _ => ?_) (fun _ => ?_) | refine csd (fun _ => ?_) (fun _ => ?_) | refine gsn (fun _ => ?_) (fun _ => ?_) | refine csn (fun _ => ?_) (fun _ => ?_))) | (with_reducible refine gs (fun _ => ?_) (fun _ => ?_)) | (with_reducible refine cs_ (fun _ => ?_) (fun _ => ?_)) | (with_reducible refine objQ_i (fun _ _ => ?_); (repeat (with_reducible refine imp_i (fun _ => ?_)))) | ((try with_reducible refine appK_a ?_); first | (with_reducible refine appD_F (by refine ⟨?_, ?_, ?_, ?_⟩ <;> (first | assumption | omega | exact St.has_add (by assumption) | (simp only [ins_has]; exact St.has_add (by assumption)) | (simp only [ins_has, fresh_ins, kill_ins, add_ins] at *; exact St.has_add (by assumption)) | (simp only [*, ins_has, has_full, St.has_add]; done) | (simp [-List.map_take, -List.map_drop, or_imp, forall_and, Seg.a, Vec.a, Leg.a, num, okEl, cells_agg, cells_int, cells_sl, cells_bool, AV.isCell]; done) | (simp; omega))) (fun _ _ => ?_)) | (with_reducible refine appD_V (by refine ⟨?_, ?_, ?_, ?_, ?_⟩ <;> (first | assumption | omega | exact St.has_add (by assumption) | (simp only [ins_has]; exact St.has_add (by assumption)) | (simp only [ins_has, fresh_ins, kill_ins, add_ins] at *; exact St.has_add (by assumption)) | (simp only [*, ins_has, has_full, St.has_add]; done) | (simp [-List.map_take, -List.map_drop, or_imp, forall_and, Seg.a, Vec.a, Leg.a, num, okEl, cells_agg, cells_int, cells_sl, cells_bool, AV.isCell]; done) | (simp; omega))) (fun _ _ => ?_))) | (with_reducible refine freshQ_i (fun _ _ => ?_)) | (with_reducible refine nilQ_i (fun _ _ => ?_)) | (with_reducible first | refine callH_use (hck) ?_ | refine pureQ_use (hck) ?_)))
  rename_i b4 h4 b10 h10 n1 n2 b11 h11 n3 n4 n5 n6
  refine loopf_of (len := l.length) (by simp only [asgL, dsts, List.cons_append, List.nil_append, List.append_nil]; rfl) (by simp only [noR, Bool.and_true, Bool.and_false]; rfl) (by omega) (fun k fr s => ∃ (ds : List Nat) (out : List Vec) (a : Int) (tk : Tok) (S : St), s = ((S.ins b4 (.cells [.int .i64 w.m, .int .i64 w.c])).ins b10 (.cells [.sl (out.map Vec.a) tk])).ins b11 (.cells [.int .i64 a]) ∧ fr.t 45 = .int .i64 k ∧ fr.d = ds ∧ DS st S ds ∧ (S.objs b4 = none ∧ S.objs b10 = none ∧ S.objs b11 = none) ∧
    Rows w.m (w.c + 1) out ∧ 0 ≤ a ∧ a ≤ 4096 * k ∧ Hid (legsF f w (l.drop k) a out = legsF f w l 0 [⟨w.m, w.c - n + 1⟩])) ?_ ?_ ?_
  · exact ⟨[], [⟨w.m, w.c - n + 1⟩], 0, .full, st, rfl, by simp [↓vD, vU, VE.ev, VE.evs, retvs, tupOf, grab, vfill, vbsl, eqCells, eqCell, veqs, veqs1, vmnx, AV.isCell, AV.isUndef, Nat.reduceEqDiff, Nat.reduceAdd, Nat.reduceSub, Nat.reduceLeDiff, Nat.reduceLT, reduceIte, reduceCtorEq, Nat.reduceBEq, k_app, k_slc1], by simp [↓vD, vU, VE.ev, VE.evs, retvs, tupOf, grab, vfill, vbsl, eqCells, eqCell, veqs, veqs1, vmnx, AV.isCell, AV.isUndef, Nat.reduceEqDiff, Nat.reduceAdd, Nat.reduceSub, Nat.reduceLeDiff, Nat.reduceLT, reduceIte, reduceCtorEq, Nat.reduceBEq, k_app, k_slc1, initFr], DS.nil (St.le.refl _), ⟨h4, h10, h11⟩, ⟨by simp, by simp only; omega, by simp only; omega, trivial⟩, by omega, by omega, ⟨rfl⟩⟩
  · rintro k fr s hk hwr hfr hd ⟨ds, out, a, tk, S, rfl, h45, hdd, hDS, ⟨h4', h10', h11'⟩, hR, ha0, ha1, HK⟩
    obtain ⟨x, hx⟩ : ∃ x, l[k] = x := ⟨_, rfl⟩
    have hxd := HO.out.pos x (by rw [← hx]; exact List.getElem_mem _)
    have hlow := low_c f w x.v t
    have HN : Hid (legsF f w (l.drop (k + 1)) (a + x.d) (cutsF x.d a (lowF f w x.v) out) = legsF f w l 0 [⟨w.m, w.c - n + 1⟩]) := ⟨by rw [← HK.out, List.drop_eq_getElem_cons hk, hx, legsF]⟩
    have hin := fun b (hb : b ∈ lowF f w x.v) => And.intro (lowF_ne HO.out.may HO.out.win x.v b hb) (lowF_in (f := f) (v := x.v) (w := w) (by omega) b hb)
    have HIn := Hid.mk hin
    clear HK hin
    unfold Vec.a at hlow
    (repeat' (first | (simp (config := { maxDischargeDepth := 16 }) only [*, Leg.a, Vec.a, vX, Int.reduceLE, Int.reduceLT, Int.reduceGE, Int.reduceGT, Int.reduceBEq, Int.reduceBNe, Int.reduceAdd, Int.reduceSub, Int.reduceMul, Int.reduceNeg, ↓vD, vU, VE.ev, VE.evs, retvs, tupOf, grab, vfill, vbsl, eqCells, eqCell, veqs, veqs1, vmnx, AV.isCell, AV.isUndef, Nat.reduceEqDiff, Nat.reduceAdd, Nat.reduceSub, Nat.reduceLeDiff, Nat.reduceLT, reduceIte, reduceCtorEq, Nat.reduceBEq]) | (simp (disch := first | assumption | omega | exact Seg.len _ | exact Vec.len _ | exact Leg.len _ | exact num_len _ | exact rowA_len _ | exact rowA_len | exact rowT_len _ | exact rowT_len | exact Seg.len | exact Vec.len | exact Leg.len | exact num_len | exact AV.slen _ _ | rfl) only [Leg.a, Vec.a, vP]) | (with_reducible (first | refine gsnd (fun _ => ?_) (fun _ => ?_) | refine csnd (fun _ => ?_) (fun _ => ?_) | refine gsd (fun _ => ?_) (fun _ => ?_) | refine csd (fun _ => ?_) (fun _ => ?_) | refine gsn (fun _ => ?_) (fun _ => ?_) | refine csn (fun _ => ?_) (fun _ => ?_))) | (with_reducible refine gs (fun _ => ?_) (fun _ => ?_)) | (with_reducible refine cs_ (fun _ => ?_) (fun _ => ?_)) | (with_reducible refine objQ_i (fun _ _ => ?_); (repeat (with_reducible refine imp_i (fun _ => ?_)))) | ((try with_reducible refine appK_a ?_); first | (with_reducible refine appD_F (by refine ⟨?_, ?_, ?_, ?_⟩ <;> (first | assumption | omega | exact St.has_add (by assumption) | (simp only [ins_has]; exact St.has_add (by assumption)) | (simp only [ins_has, fresh_ins, kill_ins, add_ins] at *; exact St.has_add (by assumption)) | (simp only [*, ins_has, has_full, St.has_add]; done) | (simp [-List.map_take, -List.map_drop, or_imp, forall_and, Seg.a, Vec.a, Leg.a, num, okEl, cells_agg, cells_int, cells_sl, cells_bool, AV.isCell]; done) | (simp; omega))) (fun _ _ => ?_)) | (with_reducible refine appD_V (by refine ⟨?_, ?_, ?_, ?_, ?_⟩ <;> (first | assumption | omega | exact St.has_add (by assumption) | (simp only [ins_has]; exact St.has_add (by assumption)) | (simp only [ins_has, fresh_ins, kill_ins, add_ins] at *; exact St.has_add (by assumption)) | (simp only [*, ins_has, has_full, St.has_add]; done) | (simp [-List.map_take, -List.map_drop, or_imp, forall_and, Seg.a, Vec.a, Leg.a, num, okEl, cells_agg, cells_int, cells_sl, cells_bool, AV.isCell]; done) | (simp; omega))) (fun _ _ => ?_))) | (with_reducible refine freshQ_i (fun _ _ => ?_)) | (with_reducible refine nilQ_i (fun _ _ => ?_)) | (with_reducible first | refine callH_use (hlow) ?_ | refine pureQ_use (hlow) ?_)))
    rename_i b13 h13 m1 m2 m3 m4 m5 m6
    have HL : Hid (lowF f w x.v = lowF f w x.v) := ⟨rfl⟩
    refine rng_iter (gf := 128) (fs := []) (by simp only [↓vD, vU, VE.ev, VE.evs, retvs, tupOf, grab, vfill, vbsl, eqCells, eqCell, veqs, veqs1, vmnx, AV.isCell, AV.isUndef, Nat.reduceEqDiff, Nat.reduceAdd, Nat.reduceSub, Nat.reduceLeDiff, Nat.reduceLT, reduceIte, reduceCtorEq, Nat.reduceBEq, k_app, k_slc1]; rfl) (low_it f (by omega) w x.v t) (by simp) (fun j T => ∃ out2 tk2, T = (((S.ins b4 (.cells [.int .i64 w.m, .int .i64 w.c])).ins b10 (.cells [.sl (out2.map Vec.a) tk2])).ins b11 (.cells [.int .i64 a])).ins b13 (.cells [.int .i64 x.d, .int .i64 x.v.m, .int .i64 x.v.c]) ∧ Rows w.m (w.c + 1) out2 ∧ Hid (cutsF x.d a ((lowF f w x.v).drop j) out2 = cutsF x.d a (lowF f w x.v) out)) (fun _ _ => False) ⟨out, tk, rfl, hR, ⟨by simp⟩⟩ ?_ ?_ (by intro _ _ _ _ _ _ _ h; exact h.elim)
    · rintro Y l0 D r hzy nlD nDl j hj T ⟨out2, tk2, rfl, hR2, HK2⟩ hTl hTD
      simp only [ins_objs, ite_some_none] at hTl hTD
      obtain ⟨q1, q2, q3, q4, q5, q6, q7, q8, hSl⟩ := hTl
      obtain ⟨r1, r2, r3, r4, r5, r6, r7, r8, hSD⟩ := hTD
      rw [List.length_map] at hj
      simp only [List.getElem_map]
      have HC := HK2.out
      rw [List.drop_eq_getElem_cons hj, cutsF] at HC
      have hb := HIn.out _ (List.getElem_mem hj)
      obtain ⟨bad, hbad⟩ : ∃ b, (lowF f w x.v)[j] = b := ⟨_, rfl⟩
      rw [hbad] at HC hb ⊢
      have HC2 := Hid.mk HC
      have hlen := hR2.len (by omega)
      have hwo := without_v out2 (by omega) tk2 (shiftW x.d a bad)
      have hR3 := hR2.without (x := shiftW x.d a bad) (by simp only [shiftW]; omega)
      simp only [shiftW] at hwo
      clear HC HK2 hbad
      (repeat' (first | (simp (config := { maxDischargeDepth := 16 }) only [*, argsFr1_t, argsFr1_d, Vec.a, Leg.a, rq_normal, vX, Int.reduceLE, Int.reduceLT, Int.reduceGE, Int.reduceGT, Int.reduceBEq, Int.reduceBNe, Int.reduceAdd, Int.reduceSub, Int.reduceMul, Int.reduceNeg, ↓vD, vU, VE.ev, VE.evs, retvs, tupOf, grab, vfill, vbsl, eqCells, eqCell, veqs, veqs1, vmnx, AV.isCell, AV.isUndef, Nat.reduceEqDiff, Nat.reduceAdd, Nat.reduceSub, Nat.reduceLeDiff, Nat.reduceLT, reduceIte, reduceCtorEq, Nat.reduceBEq]) | (simp (disch := first | assumption | omega | exact Seg.len _ | exact Vec.len _ | exact Leg.len _ | exact num_len _ | exact rowA_len _ | exact rowA_len | exact rowT_len _ | exact rowT_len | exact Seg.len | exact Vec.len | exact Leg.len | exact num_len | exact AV.slen _ _ | rfl) only [argsFr1_t, argsFr1_d, Vec.a, Leg.a, rq_normal, vP]) | (with_reducible (first | refine gsnd (fun _ => ?_) (fun _ => ?_) | refine csnd (fun _ => ?_) (fun _ => ?_) | refine gsd (fun _ => ?_) (fun _ => ?_) | refine csd (fun _ => ?_) (fun _ => ?_) | refine gsn (fun _ => ?_) (fun _ => ?_) | refine csn (fun _ => ?_) (fun _ => ?_))) | (with_reducible refine gs (fun _ => ?_) (fun _ => ?_)) | (with_reducible refine cs_ (fun _ => ?_) (fun _ => ?_)) | (with_reducible refine objQ_i (fun _ _ => ?_); (repeat (with_reducible refine imp_i (fun _ => ?_)))) | ((try with_reducible refine appK_a ?_); first | (with_reducible refine appD_F (by refine ⟨?_, ?_, ?_, ?_⟩ <;> (first | assumption | omega | exact St.has_add (by assumption) | (simp only [ins_has]; exact St.has_add (by assumption)) | (simp only [ins_has, fresh_ins, kill_ins, add_ins] at *; exact St.has_add (by assumption)) | (simp only [*, ins_has, has_full, St.has_add]; done) | (simp [-List.map_take, -List.map_drop, or_imp, forall_and, Seg.a, Vec.a, Leg.a, num, okEl, cells_agg, cells_int, cells_sl, cells_bool, AV.isCell]; done) | (simp; omega))) (fun _ _ => ?_)) | (with_reducible refine appD_V (by refine ⟨?_, ?_, ?_, ?_, ?_⟩ <;> (first | assumption | omega | exact St.has_add (by assumption) | (simp only [ins_has]; exact St.has_add (by assumption)) | (simp only [ins_has, fresh_ins, kill_ins, add_ins] at *; exact St.has_add (by assumption)) | (simp only [*, ins_has, has_full, St.has_add]; done) | (simp [-List.map_take, -List.map_drop, or_imp, forall_and, Seg.a, Vec.a, Leg.a, num, okEl, cells_agg, cells_int, cells_sl, cells_bool, AV.isCell]; done) | (simp; omega))) (fun _ _ => ?_))) | (with_reducible refine freshQ_i (fun _ _ => ?_)) | (with_reducible refine nilQ_i (fun _ _ => ?_)) | (with_reducible first | refine callH_use (hwo) ?_ | refine pureQ_use (hwo) ?_)))
      exact ⟨_, ⟨⟨_, .no, rfl, hR3, HC2⟩, (by simp only [ins_objs, kill_objs, add_objs, *, if_false, if_true, not_false_eq_true, ite_some_none, and_self, and_true, true_and])⟩, (by simp only [ins_objs, kill_objs, add_objs, *, if_false, if_true, not_false_eq_true, ite_some_none, and_self, and_true, true_and]), by (refine leX.start ?_ rfl; (repeat (refine leX.in_ (by simp only [*, ins_objs, if_true, if_false]; first | done | rfl) ?_)); (repeat (first | refine leX.new (by first | assumption | (rw [hob]; assumption)) ?_ | refine leX.old (by (simp only [List.mem_cons, true_or, or_true, eq_self]; done)) ?_)); exact leX.refl _ _)⟩
    · rintro D l0 o T nlD nDl ⟨out2, tk2, rfl, hR2, HK2⟩ hTl hTD
      simp only [ins_objs, ite_some_none] at hTl hTD
      obtain ⟨q1, q2, q3, q4, q5, q6, q7, q8, hSl⟩ := hTl
      obtain ⟨r1, r2, r3, r4, r5, r6, r7, r8, hSD⟩ := hTD
      rw [List.length_map, List.drop_length, cutsF] at HK2
      have HC := HK2.out
      subst HC
      (repeat' (first | (simp (config := { maxDischargeDepth := 16 }) only [*, Leg.a, Vec.a, vX, Int.reduceLE, Int.reduceLT, Int.reduceGE, Int.reduceGT, Int.reduceBEq, Int.reduceBNe, Int.reduceAdd, Int.reduceSub, Int.reduceMul, Int.reduceNeg, ↓vD, vU, VE.ev, VE.evs, retvs, tupOf, grab, vfill, vbsl, eqCells, eqCell, veqs, veqs1, vmnx, AV.isCell, AV.isUndef, Nat.reduceEqDiff, Nat.reduceAdd, Nat.reduceSub, Nat.reduceLeDiff, Nat.reduceLT, reduceIte, reduceCtorEq, Nat.reduceBEq]) | (simp (disch := first | assumption | omega | exact Seg.len _ | exact Vec.len _ | exact Leg.len _ | exact num_len _ | exact rowA_len _ | exact rowA_len | exact rowT_len _ | exact rowT_len | exact Seg.len | exact Vec.len | exact Leg.len | exact num_len | exact AV.slen _ _ | rfl) only [Leg.a, Vec.a, vP]) | (with_reducible (first | refine gsnd (fun _ => ?_) (fun _ => ?_) | refine csnd (fun _ => ?_) (fun _ => ?_) | refine gsd (fun _ => ?_) (fun _ => ?_) | refine csd (fun _ => ?_) (fun _ => ?_) | refine gsn (fun _ => ?_) (fun _ => ?_) | refine csn (fun _ => ?_) (fun _ => ?_))) | (with_reducible refine gs (fun _ => ?_) (fun _ => ?_)) | (with_reducible refine cs_ (fun _ => ?_) (fun _ => ?_)) | (with_reducible refine objQ_i (fun _ _ => ?_); (repeat (with_reducible refine imp_i (fun _ => ?_)))) | ((try with_reducible refine appK_a ?_); first | (with_reducible refine appD_F (by refine ⟨?_, ?_, ?_, ?_⟩ <;> (first | assumption | omega | exact St.has_add (by assumption) | (simp only [ins_has]; exact St.has_add (by assumption)) | (simp only [ins_has, fresh_ins, kill_ins, add_ins] at *; exact St.has_add (by assumption)) | (simp only [*, ins_has, has_full, St.has_add]; done) | (simp [-List.map_take, -List.map_drop, or_imp, forall_and, Seg.a, Vec.a, Leg.a, num, okEl, cells_agg, cells_int, cells_sl, cells_bool, AV.isCell]; done) | (simp; omega))) (fun _ _ => ?_)) | (with_reducible refine appD_V (by refine ⟨?_, ?_, ?_, ?_, ?_⟩ <;> (first | assumption | omega | exact St.has_add (by assumption) | (simp only [ins_has]; exact St.has_add (by assumption)) | (simp only [ins_has, fresh_ins, kill_ins, add_ins] at *; exact St.has_add (by assumption)) | (simp only [*, ins_has, has_full, St.has_add]; done) | (simp [-List.map_take, -List.map_drop, or_imp, forall_and, Seg.a, Vec.a, Leg.a, num, okEl, cells_agg, cells_int, cells_sl, cells_bool, AV.isCell]; done) | (simp; omega))) (fun _ _ => ?_))) | (with_reducible refine freshQ_i (fun _ _ => ?_)) | (with_reducible refine nilQ_i (fun _ _ => ?_))))
      exact ⟨_, by (refine leX.start ?_ rfl; (repeat (refine leX.in_ (by simp only [*, ins_objs, if_true, if_false]; first | done | rfl) ?_)); (repeat (first | refine leX.new (by first | assumption | (rw [hob]; assumption)) ?_ | refine leX.old (by (simp only [List.mem_cons, true_or, or_true, eq_self]; done)) ?_)); exact leX.refl _ _), D :: ds, _, a + x.d, tk2, S.ins D dobj, rfl, rfl, hDS.cons hSD, ⟨(by simp only [ins_objs, kill_objs, add_objs, *, if_false, if_true, not_false_eq_true, ite_some_none, and_self, and_true, true_and]), (by simp only [ins_objs, kill_objs, add_objs, *, if_false, if_true, not_false_eq_true, ite_some_none, and_self, and_true, true_and]), (by simp only [ins_objs, kill_objs, add_objs, *, if_false, if_true, not_false_eq_true, ite_some_none, and_self, and_true, true_and])⟩, hR2, by omega, by omega, HN⟩
  · rintro fr s hfr hd ⟨ds, out, a, tk, S, rfl, h45, hdd, hDS, ⟨h4', h10', h11'⟩, hR, ha0, ha1, HK⟩
    rw [List.drop_length, legsF] at HK
    have hle : S.le (((S.ins b4 (.cells [.int .i64 w.m, .int .i64 w.c])).ins b10 (.cells [.sl (out.map Vec.a) tk])).ins b11 (.cells [.int .i64 a])) := by (refine ⟨fun i o e => ?_, fun _ h => h⟩; revert e; simp only [St.ins, St.del, add_objs, kill_objs]; (repeat' split); all_goals (first | exact id | (intros; contradiction) | (intros; subst_vars; contradiction) | (intros; simp_all; done) | (intros; subst_vars; simp_all; done)))
    (repeat' (first | (simp (config := { maxDischargeDepth := 16 }) only [*, vX, Int.reduceLE, Int.reduceLT, Int.reduceGE, Int.reduceGT, Int.reduceBEq, Int.reduceBNe, Int.reduceAdd, Int.reduceSub, Int.reduceMul, Int.reduceNeg, ↓vD, vU, VE.ev, VE.evs, retvs, tupOf, grab, vfill, vbsl, eqCells, eqCell, veqs, veqs1, vmnx, AV.isCell, AV.isUndef, Nat.reduceEqDiff, Nat.reduceAdd, Nat.reduceSub, Nat.reduceLeDiff, Nat.reduceLT, reduceIte, reduceCtorEq, Nat.reduceBEq]) | (simp (disch := first | assumption | omega | exact Seg.len _ | exact Vec.len _ | exact Leg.len _ | exact num_len _ | exact rowA_len _ | exact rowA_len | exact rowT_len _ | exact rowT_len | exact Seg.len | exact Vec.len | exact Leg.len | exact num_len | exact AV.slen _ _ | rfl) only [vP]) | (with_reducible (first | refine gsnd (fun _ => ?_) (fun _ => ?_) | refine csnd (fun _ => ?_) (fun _ => ?_) | refine gsd (fun _ => ?_) (fun _ => ?_) | refine csd (fun _ => ?_) (fun _ => ?_) | refine gsn (fun _ => ?_) (fun _ => ?_) | refine csn (fun _ => ?_) (fun _ => ?_))) | (with_reducible refine gs (fun _ => ?_) (fun _ => ?_)) | (with_reducible refine cs_ (fun _ => ?_) (fun _ => ?_)) | (with_reducible refine objQ_i (fun _ _ => ?_); (repeat (with_reducible refine imp_i (fun _ => ?_)))) | ((try with_reducible refine appK_a ?_); first | (with_reducible refine appD_F (by refine ⟨?_, ?_, ?_, ?_⟩ <;> (first | assumption | omega | exact St.has_add (by assumption) | (simp only [ins_has]; exact St.has_add (by assumption)) | (simp only [ins_has, fresh_ins, kill_ins, add_ins] at *; exact St.has_add (by assumption)) | (simp only [*, ins_has, has_full, St.has_add]; done) | (simp [-List.map_take, -List.map_drop, or_imp, forall_and, Seg.a, Vec.a, Leg.a, num, okEl, cells_agg, cells_int, cells_sl, cells_bool, AV.isCell]; done) | (simp; omega))) (fun _ _ => ?_)) | (with_reducible refine appD_V (by refine ⟨?_, ?_, ?_, ?_, ?_⟩ <;> (first | assumption | omega | exact St.has_add (by assumption) | (simp only [ins_has]; exact St.has_add (by assumption)) | (simp only [ins_has, fresh_ins, kill_ins, add_ins] at *; exact St.has_add (by assumption)) | (simp only [*, ins_has, has_full, St.has_add]; done) | (simp [-List.map_take, -List.map_drop, or_imp, forall_and, Seg.a, Vec.a, Leg.a, num, okEl, cells_agg, cells_int, cells_sl, cells_bool, AV.isCell]; done) | (simp; omega))) (fun _ _ => ?_))) | (with_reducible refine freshQ_i (fun _ _ => ?_)) | (with_reducible refine nilQ_i (fun _ _ => ?_))))
    · rename_i hc
      have ho : out = [] := by
        have : out.length = 0 := by first | omega | simpa using hc
        exact List.length_eq_zero_iff.1 this
      refine ⟨_, st, rfl, hDS.fin hle, hDS.2.1, hDS.1.trans hle, .full, ?_, rfl⟩
      rw [HB.out, ← HK.out, ho]; rfl
    · refine ⟨_, st, rfl, hDS.fin hle, hDS.2.1, hDS.1.trans hle, tk, ?_, rfl⟩
      rw [HB.out, ← HK.out]; rfl
end Go.Proofs.Ytddbnncimggogaa.V
end
section
set_option linter.unusedSimpArgs false
set_option linter.unusedVariables false
/- The compiled functions of the package liveryref16 (printed by Print.lean of this work). -/
namespace Go.Proofs.Ytddbnncimggogaa.V
open Go Go.Proofs
def v_liveryref16_Same : VFn := ⟨.seq (.reg [⟨some 4, .mov (.c (.bool false)), none, [], []⟩])
(.seq (.seq (.reg [⟨some 6, .mov (.t 0), none, [], []⟩,
  ⟨some 7, .len (.t 6), none, [0], []⟩,
  ⟨some 8, .mov (.t 1), none, [], []⟩,
  ⟨some 9, .len (.t 8), none, [2], []⟩,
  ⟨some 10, .bin .neq (.t 7) (.t 9), none, [1, 3], []⟩])
(.cond (.t 10)
  (.seq (.reg [⟨some 4, .mov (.c (.bool false)), none, [], []⟩])
  (.ret))
  (.skip)))
(.seq (.seq (.reg [⟨some 5, .mov (.c (.int .i64 0)), none, [], []⟩])
(.block 0
  (.loop
    (.seq (.seq (.reg [⟨some 11, .mov (.t 5), none, [], []⟩,
      ⟨some 12, .mov (.t 0), none, [], []⟩,
      ⟨some 13, .len (.t 12), none, [1], []⟩,
      ⟨some 14, .bin .lss (.t 11) (.t 13), none, [0, 2], []⟩])
    (.cond (.t 14)
      (.skip)
      (.exit 0)))
    (.seq (.block 1
      (.seq (.dreg [⟨some 17, .mov (.t 0), none, [], []⟩,
        ⟨some 18, .mov (.t 5), none, [], []⟩,
        ⟨some 19, .iad 2 (.t 17) (.t 18), none, [0, 1], []⟩,
        ⟨some 20, .load 2 true (.t 19), none, [2], []⟩,
        ⟨some 21, .mov (.t 1), none, [], []⟩,
        ⟨some 22, .mov (.t 5), none, [], []⟩,
        ⟨some 23, .iad 2 (.t 21) (.t 22), none, [4, 5], []⟩,
        ⟨some 24, .load 2 true (.t 23), none, [6], []⟩,
        ⟨some 25, .eqs true [0, 0] (.t 20) (.t 24), none, [3, 7], []⟩])
      (.cond (.t 25)
        (.seq (.reg [⟨some 4, .mov (.c (.bool false)), none, [], []⟩])
        (.ret))
        (.skip))))
    (.reg [⟨some 15, .mov (.t 5), none, [], []⟩,
      ⟨some 16, .bin .add (.t 15) (.c (.int .i64 1)), none, [0], []⟩,
      ⟨some 5, .mov (.t 16), none, [1, 0, 1], []⟩]))))))
(.seq (.reg [⟨some 4, .mov (.c (.bool true)), none, [], []⟩])
(.ret)))),
[.t 4], 26⟩
theorem v_liveryref16_Same_ok : compF Try.prog 43 = some v_liveryref16_Same := by kernel_rfl
end Go.Proofs.Ytddbnncimggogaa.V
end
section
set_option linter.unusedSimpArgs false
set_option linter.unusedVariables false
/- The compiled functions of the package liverylaw16 (printed by Print.lean of this work). -/
namespace Go.Proofs.Ytddbnncimggogaa.V
open Go Go.Proofs
def v_liverylaw16_SlotMore : VFn := ⟨.seq (.reg [⟨some 5, .box (.t 2), none, [], []⟩,
  ⟨some 6, .mov (.c (.bool false)), none, [], []⟩])
(.seq (.dreg [⟨some 20, .fad 0 (.t 5), none, [], []⟩,
  ⟨some 21, .load 2 true (.t 20), none, [0], []⟩,
  ⟨some 22, .fad 2 (.t 5), none, [], []⟩,
  ⟨some 23, .load 1 false (.t 22), none, [2], []⟩,
  ⟨some 7, .alloc [(.int .i64 0), (.int .i64 0)], none, [], []⟩,
  ⟨none, .store 2 (.t 7) (.t 21), none, [4, 1, 0, 1, 4], [(3, 22)]⟩,
  ⟨some 8, .mov (.t 23), none, [3, 5, 0, 1, 2, 3, 4, 5], []⟩])
(.seq (.seq (.reg [⟨some 24, .mov (.t 0), none, [], []⟩,
  ⟨some 25, .load 2 true (.t 7), none, [], []⟩,
  ⟨some 26, .mov (.t 8), none, [], []⟩,
  ⟨some 27, .call 40 [(.t 24), (.t 25), (.t 26)], none, [0, 1, 2], []⟩,
  ⟨some 28, .mov (.t 27), none, [3, 3], []⟩,
  ⟨some 29, .mov (.t 1), some (28, false), [4], []⟩,
  ⟨some 30, .len (.t 29), some (28, false), [5, 4], []⟩,
  ⟨some 31, .bin .gtr (.t 30) (.c (.int .i64 60)), some (28, false), [6, 4], []⟩,
  ⟨some 32, .pick (.t 28) (.c (.bool true)) (.t 31), none, [4, 7], []⟩])
(.cond (.t 32)
  (.seq (.reg [⟨some 33, .call 41 [], none, [], []⟩,
    ⟨some 6, .mov (.t 33), none, [0, 0, 0], []⟩])
  (.ret))
  (.skip)))
(.seq (.reg [⟨some 35, .mov (.t 0), none, [], []⟩,
  ⟨some 36, .load 2 true (.t 7), none, [], []⟩,
  ⟨some 37, .mov (.t 8), none, [], []⟩,
  ⟨some 38, .call 42 [(.t 35), (.t 36), (.t 37)], none, [0, 1, 2], []⟩,
  ⟨some 34, .mov (.t 38), none, [3], []⟩,
  ⟨some 39, .ext (.t 34) 0, none, [4], []⟩,
  ⟨some 40, .ext (.t 34) 1, none, [4], []⟩,
  ⟨some 9, .mov (.t 39), none, [5, 3, 0, 1, 2, 3, 4, 5], []⟩,
  ⟨some 10, .mov (.t 40), none, [6, 7, 0, 1, 2, 3, 4, 5, 6, 7], []⟩])
(.seq (.seq (.reg [⟨some 41, .mov (.t 10), none, [], []⟩,
  ⟨some 42, .bin .neq (.t 41) (.c (.int .i64 0)), none, [0], []⟩])
(.cond (.t 42)
  (.seq (.reg [⟨some 43, .call 41 [], none, [], []⟩,
    ⟨some 6, .mov (.t 43), none, [0, 0, 0], []⟩])
  (.ret))
  (.skip)))
(.seq (.reg [⟨some 44, .fad 0 (.t 7), none, [], []⟩,
  ⟨some 45, .load 1 false (.t 44), none, [0], []⟩,
  ⟨some 46, .fad 3 (.t 5), none, [], []⟩,
  ⟨some 47, .iaa 2 1 (.t 46) (.c (.int .i64 0)), none, [2], []⟩,
  ⟨some 48, .load 1 false (.t 47), none, [3], []⟩,
  ⟨some 49, .bin .rem (.t 48) (.c (.int .u8 40)), none, [4], []⟩,
  ⟨some 50, .conv .i64 (.t 49), none, [5], []⟩,
  ⟨some 51, .bin .sub (.t 45) (.t 50), none, [1, 6], []⟩,
  ⟨some 52, .fad 1 (.t 7), none, [], []⟩,
  ⟨some 53, .load 1 false (.t 52), none, [8], []⟩,
  ⟨some 54, .fad 3 (.t 5), none, [], []⟩,
  ⟨some 55, .iaa 2 1 (.t 54) (.c (.int .i64 1)), none, [10], []⟩,
  ⟨some 56, .load 1 false (.t 55), none, [11], []⟩,
  ⟨some 57, .bin .rem (.t 56) (.c (.int .u8 40)), none, [12], []⟩,
  ⟨some 58, .conv .i64 (.t 57), none, [13], []⟩,
  ⟨some 59, .bin .add (.t 53) (.t 58), none, [9, 14], []⟩,
  ⟨some 60, .build [(.int .i64 0), (.int .i64 0)] [(0, 1, (.t 51)), (1, 1, (.t 59))], none, [7, 15], []⟩,
  ⟨some 11, .alloc [(.int .i64 0), (.int .i64 0)], none, [], []⟩,
  ⟨none, .store 2 (.t 11) (.t 60), none, [17, 16, 0, 1, 2, 3, 4, 5, 6, 7, 8, 9, 10, 11, 12, 13, 14, 15, 16, 17], []⟩])
(.seq (.reg [⟨some 62, .mov (.t 0), none, [], []⟩,
  ⟨some 63, .load 2 true (.t 11), none, [], []⟩,
  ⟨some 64, .mov (.t 8), none, [], []⟩,
  ⟨some 65, .call 42 [(.t 62), (.t 63), (.t 64)], none, [0, 1, 2], []⟩,
  ⟨some 61, .mov (.t 65), none, [3], []⟩,
  ⟨some 66, .ext (.t 61) 0, none, [4], []⟩,
  ⟨some 67, .ext (.t 61) 1, none, [4], []⟩,
  ⟨some 12, .mov (.t 66), none, [5, 3, 0, 1, 2, 3, 4, 5], []⟩,
  ⟨some 13, .mov (.t 67), none, [6, 7, 0, 1, 2, 3, 4, 5, 6, 7], []⟩])
(.seq (.seq (.reg [⟨some 68, .mov (.t 13), none, [], []⟩,
  ⟨some 69, .bin .eql (.t 68) (.c (.int .i64 0)), none, [0], []⟩,
  ⟨some 70, .mov (.t 69), none, [1], []⟩,
  ⟨some 71, .mov (.t 9), some (70, true), [2], []⟩,
  ⟨some 72, .mov (.t 12), some (70, true), [2], []⟩,
  ⟨some 73, .call 46 [(.t 71), (.t 72)], some (70, true), [3, 4, 2, 2], []⟩,
  ⟨some 74, .un .not (.t 73), some (70, true), [5, 2], []⟩,
  ⟨some 75, .pick (.t 70) (.t 74) (.c (.bool false)), none, [2, 6], []⟩])
(.cond (.t 75)
  (.seq (.reg [⟨some 6, .mov (.c (.bool false)), none, [], []⟩])
  (.ret))
  (.skip)))
(.seq (.reg [⟨some 77, .mov (.t 0), none, [], []⟩,
  ⟨some 78, .mov (.t 1), none, [], []⟩,
  ⟨some 79, .call 36 [(.t 77), (.t 78)], none, [0, 1], []⟩,
  ⟨some 76, .mov (.t 79), none, [2], []⟩,
  ⟨some 80, .ext (.t 76) 0, none, [3], []⟩,
  ⟨some 81, .ext (.t 76) 1, none, [3], []⟩,
  ⟨some 14, .mov (.t 80), none, [4, 2, 0, 1, 2, 3, 4], []⟩,
  ⟨some 15, .mov (.t 81), none, [5, 6, 0, 1, 2, 3, 4, 5, 6], []⟩])
(.seq (.reg [⟨some 83, .mov (.t 14), none, [], []⟩,
  ⟨some 84, .load 2 true (.t 7), none, [], []⟩,
  ⟨some 85, .mov (.t 8), none, [], []⟩,
  ⟨some 86, .call 42 [(.t 83), (.t 84), (.t 85)], none, [0, 1, 2], []⟩,
  ⟨some 82, .mov (.t 86), none, [3], []⟩,
  ⟨some 87, .ext (.t 82) 0, none, [4], []⟩,
  ⟨some 88, .ext (.t 82) 1, none, [4], []⟩,
  ⟨some 16, .mov (.t 87), none, [5, 3, 0, 1, 2, 3, 4, 5], []⟩,
  ⟨some 17, .mov (.t 88), none, [6, 7, 0, 1, 2, 3, 4, 5, 6, 7], []⟩])
(.seq (.seq (.reg [⟨some 89, .mov (.t 15), none, [], []⟩,
  ⟨some 90, .bin .eql (.t 89) (.c (.int .i64 0)), none, [0], []⟩,
  ⟨some 91, .mov (.t 90), none, [1], []⟩,
  ⟨some 92, .mov (.t 17), some (91, true), [2], []⟩,
  ⟨some 93, .bin .neq (.t 92) (.c (.int .i64 0)), some (91, true), [3, 2], []⟩,
  ⟨some 94, .mov (.t 93), some (91, true), [4, 2, 2], []⟩,
  ⟨some 95, .mov (.t 9), some (94, false), [5], []⟩,
  ⟨some 96, .mov (.t 16), some (94, false), [5], []⟩,
  ⟨some 97, .call 46 [(.t 95), (.t 96)], some (94, false), [6, 7, 5, 5], []⟩,
  ⟨some 98, .un .not (.t 97), some (94, false), [8, 5], []⟩,
  ⟨some 99, .pick (.t 94) (.c (.bool true)) (.t 98), some (91, true), [5, 9, 2], []⟩,
  ⟨some 100, .pick (.t 91) (.t 99) (.c (.bool false)), none, [2, 10], []⟩])
(.cond (.t 100)
  (.seq (.reg [⟨some 6, .mov (.c (.bool false)), none, [], []⟩])
  (.ret))
  (.skip)))
(.seq (.seq (.reg [⟨some 101, .mov (.t 8), none, [], []⟩,
  ⟨some 102, .len (.t 101), none, [0], []⟩,
  ⟨some 103, .bin .gtr (.t 102) (.c (.int .i64 1)), none, [1], []⟩])
(.cond (.t 103)
  (.seq (.dreg [⟨some 105, .mov (.t 0), none, [], []⟩,
    ⟨some 106, .load 2 true (.t 7), none, [], []⟩,
    ⟨some 107, .mov (.t 8), none, [], []⟩,
    ⟨some 108, .mov (.t 8), none, [], []⟩,
    ⟨some 109, .len (.t 108), none, [3], []⟩,
    ⟨some 110, .bin .sub (.t 109) (.c (.int .i64 1)), none, [4], []⟩,
    ⟨some 111, .slc 3 (.t 107) none (some (.t 110)) none, none, [2, 5], []⟩,
    ⟨some 112, .call 42 [(.t 105), (.t 106), (.t 111)], none, [0, 1, 6], [(0, 0)]⟩,
    ⟨some 104, .mov (.t 112), none, [7], []⟩,
    ⟨some 113, .ext (.t 104) 0, none, [8], []⟩,
    ⟨some 114, .ext (.t 104) 1, none, [8], []⟩,
    ⟨some 18, .mov (.t 113), none, [9, 7, 0, 1, 2, 3, 4, 5, 6, 7, 8, 9], []⟩,
    ⟨some 19, .mov (.t 114), none, [10, 11, 0, 1, 2, 3, 4, 5, 6, 7, 8, 9, 10, 11], []⟩])
  (.seq (.reg [⟨some 115, .mov (.t 19), none, [], []⟩,
    ⟨some 116, .bin .neq (.t 115) (.c (.int .i64 0)), none, [0], []⟩,
    ⟨some 117, .mov (.t 116), none, [1], []⟩,
    ⟨some 118, .mov (.t 9), some (117, false), [2], []⟩,
    ⟨some 119, .mov (.t 18), some (117, false), [2], []⟩,
    ⟨some 120, .call 46 [(.t 118), (.t 119)], some (117, false), [3, 4, 2, 2], []⟩,
    ⟨some 121, .un .not (.t 120), some (117, false), [5, 2], []⟩,
    ⟨some 122, .pick (.t 117) (.c (.bool true)) (.t 121), none, [2, 6], []⟩])
  (.cond (.t 122)
    (.seq (.reg [⟨some 6, .mov (.c (.bool false)), none, [], []⟩])
    (.ret))
    (.skip))))
  (.skip)))
(.seq (.reg [⟨some 123, .call 41 [], none, [], []⟩,
  ⟨some 6, .mov (.t 123), none, [0, 0, 0], []⟩])
(.ret))))))))))))),
[.t 6], 124⟩
theorem v_liverylaw16_SlotMore_ok : compF Try.prog 13 = some v_liverylaw16_SlotMore := by kernel_rfl
def v_liverylaw16_great : VFn := ⟨.seq (.reg [⟨some 4, .box (.t 1), none, [], []⟩,
  ⟨some 6, .mov (.c (.bool false)), none, [], []⟩])
(.seq (.reg [⟨some 7, .mov (.t 0), none, [], []⟩,
  ⟨some 8, .len (.t 7), none, [0], []⟩,
  ⟨some 9, .bin .gtr (.t 8) (.c (.int .i64 60)), none, [1], []⟩,
  ⟨some 10, .mov (.t 9), none, [2], []⟩,
  ⟨some 11, .mov (.t 2), some (10, false), [3], []⟩,
  ⟨some 12, .len (.t 11), some (10, false), [4, 3], []⟩,
  ⟨some 13, .bin .gtr (.t 12) (.c (.int .i64 30)), some (10, false), [5, 3], []⟩,
  ⟨some 14, .pick (.t 10) (.c (.bool true)) (.t 13), none, [3, 6], []⟩,
  ⟨some 15, .mov (.t 14), none, [7, 3], []⟩,
  ⟨some 16, .fad 0 (.t 4), some (15, false), [8], []⟩,
  ⟨some 17, .load 1 false (.t 16), some (15, false), [9, 8], []⟩,
  ⟨some 18, .fad 1 (.t 4), some (15, false), [8], []⟩,
  ⟨some 19, .load 1 false (.t 18), some (15, false), [11, 8], []⟩,
  ⟨some 20, .bin .lss (.t 17) (.t 19), some (15, false), [10, 12, 8], []⟩,
  ⟨some 21, .mov (.t 20), some (15, false), [13, 8, 8], []⟩,
  ⟨some 22, .fad 1 (.t 4), some (21, true), [14], []⟩,
  ⟨some 23, .load 1 false (.t 22), some (21, true), [15, 14], []⟩,
  ⟨some 24, .fad 0 (.t 4), some (21, true), [14], []⟩,
  ⟨some 25, .load 1 false (.t 24), some (21, true), [17, 14], []⟩,
  ⟨some 26, .bin .sub (.t 23) (.t 25), some (21, true), [16, 18, 14], []⟩,
  ⟨some 27, .bin .gtr (.t 26) (.c (.int .i64 150)), some (21, true), [19, 14], []⟩,
  ⟨some 28, .pick (.t 21) (.t 27) (.c (.bool false)), some (15, false), [14, 20, 8], []⟩,
  ⟨some 29, .mov (.t 28), some (15, false), [21, 14, 8], []⟩,
  ⟨some 30, .fad 1 (.t 4), some (29, true), [22], []⟩,
  ⟨some 31, .load 1 false (.t 30), some (29, true), [23, 22], []⟩,
  ⟨some 32, .fad 0 (.t 4), some (29, true), [22], []⟩,
  ⟨some 33, .load 1 false (.t 32), some (29, true), [25, 22], []⟩,
  ⟨some 34, .bin .sub (.t 31) (.t 33), some (29, true), [24, 26, 22], []⟩,
  ⟨some 35, .bin .leq (.t 34) (.c (.int .i64 4096)), some (29, true), [27, 22], []⟩,
  ⟨some 36, .pick (.t 29) (.t 35) (.c (.bool false)), some (15, false), [22, 28, 8], []⟩,
  ⟨some 37, .pick (.t 15) (.c (.bool true)) (.t 36), none, [8, 29], []⟩,
  ⟨some 6, .mov (.t 37), none, [30, 22, 0, 1, 2, 3, 4, 5, 6, 7, 8, 9, 10, 11, 12, 13, 14, 15, 16, 17, 18, 19, 20, 21, 22, 23, 24, 25, 26, 27, 28, 29, 30], []⟩])
(.ret)),
[.t 6], 38⟩
theorem v_liverylaw16_great_ok : compF Try.prog 40 = some v_liverylaw16_great := by kernel_rfl
def v_liverylaw16_head : VFn := ⟨.seq (.reg [⟨some 0, .mov (.c (.bool false)), none, [], []⟩])
(.seq (.reg [⟨some 21, .call 44 [(.c (.int .i64 5))], none, [], []⟩,
  ⟨some 22, .build [(.int .i64 0), (.int .i64 0), (.int .i64 0)] [(1, 2, (.t 21))], none, [0], []⟩,
  ⟨some 23, .call 44 [(.c (.int .i64 2))], none, [0], []⟩,
  ⟨some 24, .build [(.int .i64 0), (.int .i64 0), (.int .i64 0)] [(0, 1, (.c (.int .i64 10))), (1, 2, (.t 23))], none, [2], []⟩,
  ⟨some 25, .call 44 [(.c (.int .i64 5))], none, [2], []⟩,
  ⟨some 26, .build [(.int .i64 0), (.int .i64 0), (.int .i64 0)] [(0, 1, (.c (.int .i64 12))), (1, 2, (.t 25))], none, [4], []⟩,
  ⟨some 27, .build [(.int .i64 0), (.int .i64 0), (.int .i64 0)] [(0, 1, (.c (.int .i64 20)))], none, [], []⟩,
  ⟨some 28, .bsl 3 [(.t 22), (.t 24), (.t 26), (.t 27)], none, [1, 3, 5, 6], []⟩,
  ⟨some 1, .mov (.t 28), none, [7, 4, 0, 1, 2, 3, 4, 5, 6, 7], []⟩])
(.seq (.reg [⟨some 29, .build [(.int .i64 0), (.int .i64 0)] [(1, 1, (.c (.int .i64 30)))], none, [], []⟩,
  ⟨some 2, .alloc [(.int .i64 0), (.int .i64 0)], none, [], []⟩,
  ⟨none, .store 2 (.t 2) (.t 29), none, [1, 0, 0, 1], []⟩])
(.seq (.reg [⟨some 30, .call 44 [(.c (.int .i64 3))], none, [], []⟩,
  ⟨some 31, .build [(.int .i64 0), (.int .i64 0), (.int .i64 0)] [(0, 1, (.c (.int .i64 4))), (1, 2, (.t 30))], none, [0], []⟩,
  ⟨some 32, .bsl 3 [(.t 31)], none, [1], []⟩,
  ⟨some 3, .mov (.t 32), none, [2, 0, 0, 1, 2], []⟩])
(.seq (.reg [⟨some 33, .call 44 [(.c (.int .i64 3))], none, [], []⟩,
  ⟨some 34, .build [(.int .i64 0), (.int .i64 0), (.int .i64 0)] [(0, 1, (.c (.int .i64 4))), (1, 2, (.t 33))], none, [0], []⟩,
  ⟨some 35, .call 44 [(.c (.int .i64 1))], none, [0], []⟩,
  ⟨some 36, .build [(.int .i64 0), (.int .i64 0), (.int .i64 0)] [(0, 1, (.c (.int .i64 2))), (1, 2, (.t 35))], none, [2], []⟩,
  ⟨some 37, .bsl 3 [(.t 34), (.t 36)], none, [1, 3], []⟩,
  ⟨some 4, .mov (.t 37), none, [4, 2, 0, 1, 2, 3, 4], []⟩])
(.seq (.reg [⟨some 39, .mov (.t 1), none, [], []⟩,
  ⟨some 40, .load 2 true (.t 2), none, [], []⟩,
  ⟨some 41, .mov (.t 3), none, [], []⟩,
  ⟨some 42, .call 42 [(.t 39), (.t 40), (.t 41)], none, [0, 1, 2], []⟩,
  ⟨some 38, .mov (.t 42), none, [3], []⟩,
  ⟨some 43, .ext (.t 38) 0, none, [4], []⟩,
  ⟨some 44, .ext (.t 38) 1, none, [4], []⟩,
  ⟨some 5, .mov (.t 43), none, [5, 3, 0, 1, 2, 3, 4, 5], []⟩,
  ⟨some 6, .mov (.t 44), none, [6, 7, 0, 1, 2, 3, 4, 5, 6, 7], []⟩])
(.seq (.reg [⟨some 46, .mov (.t 1), none, [], []⟩,
  ⟨some 47, .load 2 true (.t 2), none, [], []⟩,
  ⟨some 48, .mov (.t 3), none, [], []⟩,
  ⟨some 49, .call 79 [(.t 46), (.t 47), (.t 48)], none, [0, 1, 2], []⟩,
  ⟨some 45, .mov (.t 49), none, [3], []⟩,
  ⟨some 50, .ext (.t 45) 0, none, [4], []⟩,
  ⟨some 51, .ext (.t 45) 1, none, [4], []⟩,
  ⟨some 7, .mov (.t 50), none, [5, 3, 0, 1, 2, 3, 4, 5], []⟩,
  ⟨some 8, .mov (.t 51), none, [6, 7, 0, 1, 2, 3, 4, 5, 6, 7], []⟩])
(.seq (.reg [⟨some 53, .mov (.t 1), none, [], []⟩,
  ⟨some 54, .load 2 true (.t 2), none, [], []⟩,
  ⟨some 55, .mov (.t 3), none, [], []⟩,
  ⟨some 56, .call 80 [(.t 53), (.t 54), (.t 55)], none, [0, 1, 2], []⟩,
  ⟨some 52, .mov (.t 56), none, [3], []⟩,
  ⟨some 57, .ext (.t 52) 0, none, [4], []⟩,
  ⟨some 58, .ext (.t 52) 1, none, [4], []⟩,
  ⟨some 9, .mov (.t 57), none, [5, 3, 0, 1, 2, 3, 4, 5], []⟩,
  ⟨some 10, .mov (.t 58), none, [6, 7, 0, 1, 2, 3, 4, 5, 6, 7], []⟩])
(.seq (.reg [⟨some 60, .mov (.t 1), none, [], []⟩,
  ⟨some 61, .build [(.int .i64 0), (.int .i64 0)] [(0, 1, (.c (.int .i64 7))), (1, 1, (.c (.int .i64 30)))], none, [], []⟩,
  ⟨some 62, .mov (.t 3), none, [], []⟩,
  ⟨some 63, .call 79 [(.t 60), (.t 61), (.t 62)], none, [0, 1, 2], []⟩,
  ⟨some 59, .mov (.t 63), none, [3], []⟩,
  ⟨some 64, .ext (.t 59) 0, none, [4], []⟩,
  ⟨some 65, .ext (.t 59) 1, none, [4], []⟩,
  ⟨some 11, .mov (.t 64), none, [5, 3, 0, 1, 2, 3, 4, 5], []⟩,
  ⟨some 12, .mov (.t 65), none, [6, 7, 0, 1, 2, 3, 4, 5, 6, 7], []⟩])
(.seq (.reg [⟨some 67, .mov (.t 1), none, [], []⟩,
  ⟨some 68, .load 2 true (.t 2), none, [], []⟩,
  ⟨some 69, .mov (.t 4), none, [], []⟩,
  ⟨some 70, .call 42 [(.t 67), (.t 68), (.t 69)], none, [0, 1, 2], []⟩,
  ⟨some 66, .mov (.t 70), none, [3], []⟩,
  ⟨some 71, .ext (.t 66) 0, none, [4], []⟩,
  ⟨some 72, .ext (.t 66) 1, none, [4], []⟩,
  ⟨some 13, .mov (.t 71), none, [5, 3, 0, 1, 2, 3, 4, 5], []⟩,
  ⟨some 14, .mov (.t 72), none, [6, 7, 0, 1, 2, 3, 4, 5, 6, 7], []⟩])
(.seq (.reg [⟨some 74, .mov (.t 4), none, [], []⟩,
  ⟨some 75, .call 81 [(.t 74)], none, [0], []⟩,
  ⟨some 73, .mov (.t 75), none, [1], []⟩,
  ⟨some 76, .ext (.t 73) 0, none, [2], []⟩,
  ⟨some 77, .ext (.t 73) 1, none, [2], []⟩,
  ⟨some 15, .mov (.t 76), none, [3, 1, 0, 1, 2, 3], []⟩,
  ⟨some 16, .mov (.t 77), none, [4, 5, 0, 1, 2, 3, 4, 5], []⟩])
(.seq (.reg [⟨some 79, .mov (.t 1), none, [], []⟩,
  ⟨some 80, .build [(.int .i64 0), (.int .i64 0)] [(0, 1, (.c (.int .i64 7))), (1, 1, (.c (.int .i64 15)))], none, [], []⟩,
  ⟨some 81, .mov (.t 3), none, [], []⟩,
  ⟨some 82, .call 79 [(.t 79), (.t 80), (.t 81)], none, [0, 1, 2], []⟩,
  ⟨some 78, .mov (.t 82), none, [3], []⟩,
  ⟨some 83, .ext (.t 78) 0, none, [4], []⟩,
  ⟨some 84, .ext (.t 78) 1, none, [4], []⟩,
  ⟨some 17, .mov (.t 83), none, [5, 3, 0, 1, 2, 3, 4, 5], []⟩,
  ⟨some 18, .mov (.t 84), none, [6, 7, 0, 1, 2, 3, 4, 5, 6, 7], []⟩])
(.seq (.reg [⟨some 86, .mov (.t 1), none, [], []⟩,
  ⟨some 87, .build [(.int .i64 0), (.int .i64 0)] [(0, 1, (.c (.int .i64 7))), (1, 1, (.c (.int .i64 7)))], none, [], []⟩,
  ⟨some 88, .mov (.t 3), none, [], []⟩,
  ⟨some 89, .call 79 [(.t 86), (.t 87), (.t 88)], none, [0, 1, 2], []⟩,
  ⟨some 85, .mov (.t 89), none, [3], []⟩,
  ⟨some 90, .ext (.t 85) 0, none, [4], []⟩,
  ⟨some 91, .ext (.t 85) 1, none, [4], []⟩,
  ⟨some 19, .mov (.t 90), none, [5, 3, 0, 1, 2, 3, 4, 5], []⟩,
  ⟨some 20, .mov (.t 91), none, [6, 7, 0, 1, 2, 3, 4, 5, 6, 7], []⟩])
(.seq (.reg [⟨some 92, .mov (.t 5), none, [], []⟩,
  ⟨some 93, .build [(.int .i64 0), (.int .i64 0)] [(1, 1, (.c (.int .i64 7)))], none, [], []⟩,
  ⟨some 94, .build [(.int .i64 0), (.int .i64 0)] [(0, 1, (.c (.int .i64 12))), (1, 1, (.c (.int .i64 17)))], none, [], []⟩,
  ⟨some 95, .bsl 2 [(.t 93), (.t 94)], none, [1, 2], []⟩,
  ⟨some 96, .call 43 [(.t 92), (.t 95)], none, [0, 3], []⟩,
  ⟨some 97, .mov (.t 96), none, [4, 4], []⟩,
  ⟨some 98, .mov (.t 6), some (97, true), [5], []⟩,
  ⟨some 99, .bin .eql (.t 98) (.c (.int .i64 0)), some (97, true), [6, 5], []⟩,
  ⟨some 100, .pick (.t 97) (.t 99) (.c (.bool false)), none, [5, 7], []⟩,
  ⟨some 101, .mov (.t 100), none, [8, 5], []⟩,
  ⟨some 102, .mov (.t 7), some (101, true), [9], []⟩,
  ⟨some 103, .bin .eql (.t 102) (.c (.int .i64 0)), some (101, true), [10, 9], []⟩,
  ⟨some 104, .pick (.t 101) (.t 103) (.c (.bool false)), none, [9, 11], []⟩,
  ⟨some 105, .mov (.t 104), none, [12, 9], []⟩,
  ⟨some 106, .mov (.t 8), some (105, true), [13], []⟩,
  ⟨some 107, .bin .eql (.t 106) (.c (.int .i64 0)), some (105, true), [14, 13], []⟩,
  ⟨some 108, .pick (.t 105) (.t 107) (.c (.bool false)), none, [13, 15], []⟩,
  ⟨some 109, .mov (.t 108), none, [16, 13], []⟩,
  ⟨some 110, .mov (.t 9), some (109, true), [17], []⟩,
  ⟨some 111, .bin .eql (.t 110) (.c (.int .i64 16)), some (109, true), [18, 17], []⟩,
  ⟨some 112, .pick (.t 109) (.t 111) (.c (.bool false)), none, [17, 19], []⟩,
  ⟨some 113, .mov (.t 112), none, [20, 17], []⟩,
  ⟨some 114, .mov (.t 10), some (113, true), [21], []⟩,
  ⟨some 115, .bin .eql (.t 114) (.c (.int .i64 0)), some (113, true), [22, 21], []⟩,
  ⟨some 116, .pick (.t 113) (.t 115) (.c (.bool false)), none, [21, 23], []⟩,
  ⟨some 117, .mov (.t 116), none, [24, 21], []⟩,
  ⟨some 118, .mov (.t 11), some (117, true), [25], []⟩,
  ⟨some 119, .bin .eql (.t 118) (.c (.int .i64 12)), some (117, true), [26, 25], []⟩,
  ⟨some 120, .pick (.t 117) (.t 119) (.c (.bool false)), none, [25, 27], []⟩,
  ⟨some 121, .mov (.t 120), none, [28, 25], []⟩,
  ⟨some 122, .mov (.t 12), some (121, true), [29], []⟩,
  ⟨some 123, .bin .eql (.t 122) (.c (.int .i64 0)), some (121, true), [30, 29], []⟩,
  ⟨some 124, .pick (.t 121) (.t 123) (.c (.bool false)), none, [29, 31], []⟩,
  ⟨some 125, .mov (.t 124), none, [32, 29], []⟩,
  ⟨some 126, .mov (.t 13), some (125, true), [33], []⟩,
  ⟨some 127, .build [(.int .i64 0), (.int .i64 0)] [(1, 1, (.c (.int .i64 7)))], some (125, true), [33], []⟩,
  ⟨some 128, .build [(.int .i64 0), (.int .i64 0)] [(0, 1, (.c (.int .i64 12))), (1, 1, (.c (.int .i64 15)))], some (125, true), [33], []⟩,
  ⟨some 129, .bsl 2 [(.t 127), (.t 128)], some (125, true), [35, 36, 33], []⟩,
  ⟨some 130, .call 43 [(.t 126), (.t 129)], some (125, true), [34, 37, 33, 33], []⟩,
  ⟨some 131, .pick (.t 125) (.t 130) (.c (.bool false)), none, [33, 38], []⟩,
  ⟨some 132, .mov (.t 131), none, [39, 38], []⟩,
  ⟨some 133, .mov (.t 14), some (132, true), [40], []⟩,
  ⟨some 134, .bin .eql (.t 133) (.c (.int .i64 0)), some (132, true), [41, 40], []⟩,
  ⟨some 135, .pick (.t 132) (.t 134) (.c (.bool false)), none, [40, 42], []⟩,
  ⟨some 136, .mov (.t 135), none, [43, 40], []⟩,
  ⟨some 137, .mov (.t 15), some (136, true), [44], []⟩,
  ⟨some 138, .bin .eql (.t 137) (.c (.int .i64 6)), some (136, true), [45, 44], []⟩,
  ⟨some 139, .pick (.t 136) (.t 138) (.c (.bool false)), none, [44, 46], []⟩,
  ⟨some 140, .mov (.t 139), none, [47, 44], []⟩,
  ⟨some 141, .mov (.t 16), some (140, true), [48], []⟩,
  ⟨some 142, .bin .eql (.t 141) (.c (.int .i64 0)), some (140, true), [49, 48], []⟩,
  ⟨some 143, .pick (.t 140) (.t 142) (.c (.bool false)), none, [48, 50], []⟩,
  ⟨some 144, .mov (.t 143), none, [51, 48], []⟩,
  ⟨some 145, .mov (.t 18), some (144, true), [52], []⟩,
  ⟨some 146, .bin .eql (.t 145) (.c (.int .i64 210)), some (144, true), [53, 52], []⟩,
  ⟨some 147, .pick (.t 144) (.t 146) (.c (.bool false)), none, [52, 54], []⟩,
  ⟨some 148, .mov (.t 147), none, [55, 52], []⟩,
  ⟨some 149, .mov (.t 20), some (148, true), [56], []⟩,
  ⟨some 150, .bin .eql (.t 149) (.c (.int .i64 2)), some (148, true), [57, 56], []⟩,
  ⟨some 151, .pick (.t 148) (.t 150) (.c (.bool false)), none, [56, 58], []⟩,
  ⟨some 0, .mov (.t 151), none, [59, 56, 0, 1, 2, 3, 4, 5, 6, 7, 8, 9, 10, 11, 12, 13, 14, 15, 16, 17, 18, 19, 20, 21, 22, 23, 24, 25, 26, 27, 28, 29, 30, 31, 32, 33, 34, 35, 36, 37, 38, 39, 40, 41, 42, 43, 44, 45, 46, 47, 48, 49, 50, 51, 52, 53, 54, 55, 56, 57, 58, 59], []⟩])
(.ret)))))))))))))),
[.t 0], 152⟩
theorem v_liverylaw16_head_ok : compF Try.prog 41 = some v_liverylaw16_head := by kernel_rfl
def v_liverylaw16_v : VFn := ⟨.seq (.reg [⟨some 2, .alloc [(.int .i64 0), (.int .i64 0)], none, [], []⟩])
(.seq (.reg [⟨some 3, .mov (.t 0), none, [], []⟩,
  ⟨some 4, .mov (.t 0), none, [], []⟩,
  ⟨some 5, .build [(.int .i64 0), (.int .i64 0)] [(0, 1, (.t 3)), (1, 1, (.t 4))], none, [0, 1], []⟩,
  ⟨none, .store 2 (.t 2) (.t 5), none, [2, 0, 1, 2], []⟩])
(.ret)),
[.c 2 2 true], 6⟩
theorem v_liverylaw16_v_ok : compF Try.prog 44 = some v_liverylaw16_v := by kernel_rfl
def v_liverylaw16_within : VFn := ⟨.seq (.reg [⟨some 4, .mov (.c (.bool false)), none, [], []⟩])
(.seq (.seq (.reg [⟨some 5, .mov (.c (.int .i64 0)), none, [], []⟩])
(.block 0
  (.loop
    (.seq (.seq (.reg [⟨some 8, .mov (.t 5), none, [], []⟩,
      ⟨some 9, .mov (.t 0), none, [], []⟩,
      ⟨some 10, .len (.t 9), none, [1], []⟩,
      ⟨some 11, .bin .lss (.t 8) (.t 10), none, [0, 2], []⟩])
    (.cond (.t 11)
      (.skip)
      (.exit 0)))
    (.seq (.block 1
      (.seq (.reg [⟨some 6, .mov (.c (.bool false)), none, [], []⟩])
      (.seq (.seq (.reg [⟨some 7, .mov (.c (.int .i64 0)), none, [], []⟩])
      (.block 2
        (.loop
          (.seq (.seq (.reg [⟨some 14, .mov (.t 7), none, [], []⟩,
            ⟨some 15, .mov (.t 1), none, [], []⟩,
            ⟨some 16, .len (.t 15), none, [1], []⟩,
            ⟨some 17, .bin .lss (.t 14) (.t 16), none, [0, 2], []⟩])
          (.cond (.t 17)
            (.skip)
            (.exit 2)))
          (.seq (.block 3
            (.dreg [⟨some 20, .mov (.t 6), none, [], []⟩,
              ⟨some 21, .mov (.t 20), none, [0], []⟩,
              ⟨some 22, .mov (.t 1), some (21, false), [1], []⟩,
              ⟨some 23, .mov (.t 7), some (21, false), [1], []⟩,
              ⟨some 24, .iad 2 (.t 22) (.t 23), some (21, false), [2, 3, 1], []⟩,
              ⟨some 25, .fad 0 (.t 24), some (21, false), [4, 1], []⟩,
              ⟨some 26, .load 1 false (.t 25), some (21, false), [5, 1], []⟩,
              ⟨some 27, .mov (.t 0), some (21, false), [1], []⟩,
              ⟨some 28, .mov (.t 5), some (21, false), [1], []⟩,
              ⟨some 29, .iad 2 (.t 27) (.t 28), some (21, false), [7, 8, 1], []⟩,
              ⟨some 30, .fad 0 (.t 29), some (21, false), [9, 1], []⟩,
              ⟨some 31, .load 1 false (.t 30), some (21, false), [10, 1], []⟩,
              ⟨some 32, .bin .leq (.t 26) (.t 31), some (21, false), [6, 11, 1], []⟩,
              ⟨some 33, .mov (.t 32), some (21, false), [12, 1, 1], []⟩,
              ⟨some 34, .mov (.t 0), some (33, true), [13], []⟩,
              ⟨some 35, .mov (.t 5), some (33, true), [13], []⟩,
              ⟨some 36, .iad 2 (.t 34) (.t 35), some (33, true), [14, 15, 13], []⟩,
              ⟨some 37, .fad 1 (.t 36), some (33, true), [16, 13], []⟩,
              ⟨some 38, .load 1 false (.t 37), some (33, true), [17, 13], []⟩,
              ⟨some 39, .mov (.t 1), some (33, true), [13], []⟩,
              ⟨some 40, .mov (.t 7), some (33, true), [13], []⟩,
              ⟨some 41, .iad 2 (.t 39) (.t 40), some (33, true), [19, 20, 13], []⟩,
              ⟨some 42, .fad 1 (.t 41), some (33, true), [21, 13], []⟩,
              ⟨some 43, .load 1 false (.t 42), some (33, true), [22, 13], []⟩,
              ⟨some 44, .bin .leq (.t 38) (.t 43), some (33, true), [18, 23, 13], []⟩,
              ⟨some 45, .pick (.t 33) (.t 44) (.c (.bool false)), some (21, false), [13, 24, 1], []⟩,
              ⟨some 46, .pick (.t 21) (.c (.bool true)) (.t 45), none, [1, 25], []⟩,
              ⟨some 6, .mov (.t 46), none, [26, 13, 0, 1, 2, 3, 4, 5, 6, 7, 8, 9, 10, 11, 12, 13, 14, 15, 16, 17, 18, 19, 20, 21, 22, 23, 24, 25, 26], []⟩]))
          (.reg [⟨some 18, .mov (.t 7), none, [], []⟩,
            ⟨some 19, .bin .add (.t 18) (.c (.int .i64 1)), none, [0], []⟩,
            ⟨some 7, .mov (.t 19), none, [1, 0, 1], []⟩]))))))
      (.seq (.reg [⟨some 47, .mov (.t 6), none, [], []⟩,
        ⟨some 48, .un .not (.t 47), none, [0], []⟩])
      (.cond (.t 48)
        (.seq (.reg [⟨some 4, .mov (.c (.bool false)), none, [], []⟩])
        (.ret))
        (.skip))))))
    (.reg [⟨some 12, .mov (.t 5), none, [], []⟩,
      ⟨some 13, .bin .add (.t 12) (.c (.int .i64 1)), none, [0], []⟩,
      ⟨some 5, .mov (.t 13), none, [1, 0, 1], []⟩]))))))
(.seq (.reg [⟨some 4, .mov (.c (.bool true)), none, [], []⟩])
(.ret))),
[.t 4], 49⟩
theorem v_liverylaw16_within_ok : compF Try.prog 46 = some v_liverylaw16_within := by kernel_rfl
end Go.Proofs.Ytddbnncimggogaa.V
end
section
set_option linter.unusedSimpArgs false
set_option linter.unusedVariables false
/- slot.Earliest, Latest; liveryref16.Same; liverylaw16.v, head, great. -/
namespace Go.Proofs.Ytddbnncimggogaa.V
open Go Go.Proofs
set_option maxRecDepth 100000
set_option maxHeartbeats 4000000
theorem Earliest1_v (l : List Vec) (hn : l ≠ []) (hl : l.length ≤ 1000000000) (t : Tok) : VPure Try.prog 123 [.sl (l.map Vec.a) t] (.int .i64 ((l.head?.map (·.m)).getD 0)) := by
  have h0 : 0 < l.length := List.length_pos_iff.2 hn
  have HH : Hid ((l.head?.map (·.m)).getD 0 = l[0].m) := ⟨by rw [List.head?_eq_getElem?, List.getElem?_eq_getElem h0]; rfl⟩
  rw [HH.out]
  obtain ⟨x, hx⟩ : ∃ x, l[0] = x := ⟨_, rfl⟩
  refine VPure.of v_slot_Earliest_1_ok (Nat.le_of_ble_eq_true rfl) (fun Z st => ?_)
  simp only [v_slot_Earliest_1, ↓vD, vU, VE.ev, VE.evs, retvs, tupOf, grab, vfill, vbsl, eqCells, eqCell, veqs, veqs1, vmnx, AV.isCell, AV.isUndef, Nat.reduceEqDiff, Nat.reduceAdd, Nat.reduceSub, Nat.reduceLeDiff, Nat.reduceLT, reduceIte, reduceCtorEq, Nat.reduceBEq, k_app, k_slc1]
  (repeat' (first | (simp (config := { maxDischargeDepth := 16 }) only [*, Vec.a, vX, Int.reduceLE, Int.reduceLT, Int.reduceGE, Int.reduceGT, Int.reduceBEq, Int.reduceBNe, Int.reduceAdd, Int.reduceSub, Int.reduceMul, Int.reduceNeg, ↓vD, vU, VE.ev, VE.evs, retvs, tupOf, grab, vfill, vbsl, eqCells, eqCell, veqs, veqs1, vmnx, AV.isCell, AV.isUndef, Nat.reduceEqDiff, Nat.reduceAdd, Nat.reduceSub, Nat.reduceLeDiff, Nat.reduceLT, reduceIte, reduceCtorEq, Nat.reduceBEq]) | (simp (disch := first | assumption | omega | exact Seg.len _ | exact Vec.len _ | exact Leg.len _ | exact num_len _ | exact rowA_len _ | exact rowA_len | exact rowT_len _ | exact rowT_len | exact Seg.len | exact Vec.len | exact Leg.len | exact num_len | exact AV.slen _ _ | rfl) only [Vec.a, vP]) | (with_reducible (first | refine gsnd (fun _ => ?_) (fun _ => ?_) | refine csnd (fun _ => ?_) (fun _ => ?_) | refine gsd (fun _ => ?_) (fun _ => ?_) | refine csd (fun _ => ?_) (fun _ => ?_) | refine gsn (fun _ => ?_) (fun _ => ?_) | refine csn (fun _ => ?_) (fun _ => ?_))) | (with_reducible refine gs (fun _ => ?_) (fun _ => ?_)) | (with_reducible refine cs_ (fun _ => ?_) (fun _ => ?_)) | (with_reducible refine objQ_i (fun _ _ => ?_); (repeat (with_reducible refine imp_i (fun _ => ?_)))) | ((try with_reducible refine appK_a ?_); first | (with_reducible refine appD_F (by refine ⟨?_, ?_, ?_, ?_⟩ <;> (first | assumption | omega | exact St.has_add (by assumption) | (simp only [ins_has]; exact St.has_add (by assumption)) | (simp only [ins_has, fresh_ins, kill_ins, add_ins] at *; exact St.has_add (by assumption)) | (simp only [*, ins_has, has_full, St.has_add]; done) | (simp [-List.map_take, -List.map_drop, or_imp, forall_and, Seg.a, Vec.a, Leg.a, num, okEl, cells_agg, cells_int, cells_sl, cells_bool, AV.isCell]; done) | (simp; omega))) (fun _ _ => ?_)) | (with_reducible refine appD_V (by refine ⟨?_, ?_, ?_, ?_, ?_⟩ <;> (first | assumption | omega | exact St.has_add (by assumption) | (simp only [ins_has]; exact St.has_add (by assumption)) | (simp only [ins_has, fresh_ins, kill_ins, add_ins] at *; exact St.has_add (by assumption)) | (simp only [*, ins_has, has_full, St.has_add]; done) | (simp [-List.map_take, -List.map_drop, or_imp, forall_and, Seg.a, Vec.a, Leg.a, num, okEl, cells_agg, cells_int, cells_sl, cells_bool, AV.isCell]; done) | (simp; omega))) (fun _ _ => ?_))) | (with_reducible refine freshQ_i (fun _ _ => ?_)) | (with_reducible refine nilQ_i (fun _ _ => ?_))))
theorem Latest1_v (l : List Vec) (hn : l ≠ []) (hl : l.length ≤ 1000000000) (hb : ∀ x ∈ l, -9000000000000000000 ≤ x.c ∧ x.c ≤ 9000000000000000000) (t : Tok) : VPure Try.prog 124 [.sl (l.map Vec.a) t] (.int .i64 ((l.getLast?.map (·.c)).getD 0 - 1)) := by
  have h0 : 0 < l.length := List.length_pos_iff.2 hn
  obtain ⟨x, hx⟩ : ∃ x, l.getD (l.length - 1) default = x := ⟨_, rfl⟩
  have hg : l.getLast? = some x := by
    rw [List.getLast?_eq_getElem?, ← hx, List.getD_eq_getElem?_getD, List.getElem?_eq_getElem (by omega)]; rfl
  have hxm := hb x (by rw [← hx, List.getD_eq_getElem?_getD, List.getElem?_eq_getElem (by omega)]; exact List.getElem_mem _)
  rw [hg]
  have ha := e_iadG Vec.a l t .i64 ((l.length : Int) - 1) 2 (by omega) (by omega) rfl (by omega)
  have e1 : ((l.length : Int) - 1).toNat = l.length - 1 := by omega
  rw [e1, hx] at ha
  clear e1 hx hg
  have hw : IntKind.i64.wrap ((l.length : Int) - 1) = (l.length : Int) - 1 := wrap_i64 _ (by omega) (by omega)
  have hw2 : IntKind.i64.wrap (x.c - 1) = x.c - 1 := wrap_i64 _ (by omega) (by omega)
  refine VPure.of v_slot_Latest_1_ok (Nat.le_of_ble_eq_true rfl) (fun Z st => ?_)
  simp only [v_slot_Latest_1, ↓vD, vU, VE.ev, VE.evs, retvs, tupOf, grab, vfill, vbsl, eqCells, eqCell, veqs, veqs1, vmnx, AV.isCell, AV.isUndef, Nat.reduceEqDiff, Nat.reduceAdd, Nat.reduceSub, Nat.reduceLeDiff, Nat.reduceLT, reduceIte, reduceCtorEq, Nat.reduceBEq, k_app, k_slc1]
  (repeat' (first | (simp (config := { maxDischargeDepth := 16 }) only [*, Vec.a, vX, Int.reduceLE, Int.reduceLT, Int.reduceGE, Int.reduceGT, Int.reduceBEq, Int.reduceBNe, Int.reduceAdd, Int.reduceSub, Int.reduceMul, Int.reduceNeg, ↓vD, vU, VE.ev, VE.evs, retvs, tupOf, grab, vfill, vbsl, eqCells, eqCell, veqs, veqs1, vmnx, AV.isCell, AV.isUndef, Nat.reduceEqDiff, Nat.reduceAdd, Nat.reduceSub, Nat.reduceLeDiff, Nat.reduceLT, reduceIte, reduceCtorEq, Nat.reduceBEq]) | (simp (disch := first | assumption | omega | exact Seg.len _ | exact Vec.len _ | exact Leg.len _ | exact num_len _ | exact rowA_len _ | exact rowA_len | exact rowT_len _ | exact rowT_len | exact Seg.len | exact Vec.len | exact Leg.len | exact num_len | exact AV.slen _ _ | rfl) only [Vec.a, vP]) | (with_reducible (first | refine gsnd (fun _ => ?_) (fun _ => ?_) | refine csnd (fun _ => ?_) (fun _ => ?_) | refine gsd (fun _ => ?_) (fun _ => ?_) | refine csd (fun _ => ?_) (fun _ => ?_) | refine gsn (fun _ => ?_) (fun _ => ?_) | refine csn (fun _ => ?_) (fun _ => ?_))) | (with_reducible refine gs (fun _ => ?_) (fun _ => ?_)) | (with_reducible refine cs_ (fun _ => ?_) (fun _ => ?_)) | (with_reducible refine objQ_i (fun _ _ => ?_); (repeat (with_reducible refine imp_i (fun _ => ?_)))) | ((try with_reducible refine appK_a ?_); first | (with_reducible refine appD_F (by refine ⟨?_, ?_, ?_, ?_⟩ <;> (first | assumption | omega | exact St.has_add (by assumption) | (simp only [ins_has]; exact St.has_add (by assumption)) | (simp only [ins_has, fresh_ins, kill_ins, add_ins] at *; exact St.has_add (by assumption)) | (simp only [*, ins_has, has_full, St.has_add]; done) | (simp [-List.map_take, -List.map_drop, or_imp, forall_and, Seg.a, Vec.a, Leg.a, num, okEl, cells_agg, cells_int, cells_sl, cells_bool, AV.isCell]; done) | (simp; omega))) (fun _ _ => ?_)) | (with_reducible refine appD_V (by refine ⟨?_, ?_, ?_, ?_, ?_⟩ <;> (first | assumption | omega | exact St.has_add (by assumption) | (simp only [ins_has]; exact St.has_add (by assumption)) | (simp only [ins_has, fresh_ins, kill_ins, add_ins] at *; exact St.has_add (by assumption)) | (simp only [*, ins_has, has_full, St.has_add]; done) | (simp [-List.map_take, -List.map_drop, or_imp, forall_and, Seg.a, Vec.a, Leg.a, num, okEl, cells_agg, cells_int, cells_sl, cells_bool, AV.isCell]; done) | (simp; omega))) (fun _ _ => ?_))) | (with_reducible refine freshQ_i (fun _ _ => ?_)) | (with_reducible refine nilQ_i (fun _ _ => ?_))))
  all_goals simp
/-- What is told of begins: the first one, or an error. -/
def askF (g : List Vec → Int) (b : List Vec × Int) : Int × Int := if b.2 ≠ 0 then (0, b.2) else if b.1 = [] then (0, 210) else (g b.1, 0)
theorem beginsF_len (f : List Seg) (w : Vec) (l : List Leg) : (beginsF f w l).1.length ≤ 5000 ∧ ∀ x ∈ (beginsF f w l).1, -9000000000000000000 ≤ x.c ∧ x.c ≤ 9000000000000000000 := by
  by_cases h : (checkF f w l).2 = 0
  · have hO := check_ok.1 h
    have hr := (begins_is hO).1
    have h1 := hO.win
    have h2 := hO.span
    have h3 := hO.from_
    have h4 := hO.to_
    simp only [farF, Bool.or_eq_false_iff, decide_eq_false_iff_not] at h3 h4
    refine ⟨?_, ?_⟩
    · have := hr.rows.len (by omega)
      omega
    · have key : ∀ (l : List Vec) (lo : Int), w.m ≤ lo → RowsG lo (w.c + 1) l → ∀ x ∈ l, w.m ≤ x.c ∧ x.c ≤ w.c + 1 := by
        intro l
        induction l with
        | nil => intro _ _ _ x hx; cases hx
        | cons y r ih =>
          rintro lo hlo ⟨a, b, c, d⟩ x hx
          rcases List.mem_cons.1 hx with rfl | hx
          · omega
          · exact ih _ (by omega) d x hx
      intro x hx
      have := key _ _ (Int.le_refl _) hr x hx
      omega
  · have : (beginsF f w l).1 = [] := by unfold beginsF; rw [if_pos (.inl h)]
    rw [this]; simp
theorem Earliest_c (f : List Seg) (hf : f.length ≤ 1000000) (w : Vec) (h1 : -9223372036854775808 ≤ w.m) (h2 : w.c ≤ 9223372036854775807) (l : List Leg) (hl : l.length ≤ 1000000000) (t t' : Tok) :
    VPure Try.prog 79 [.sl (f.map Seg.a) t, .agg [.int .i64 w.m, .int .i64 w.c], .sl (l.map Leg.a) t'] (.tup [num (askF (fun b => (b.head?.map (·.m)).getD 0) (beginsF f w l)).1, num (askF (fun b => (b.head?.map (·.m)).getD 0) (beginsF f w l)).2]) := by
  have hB := Begins_c f hf w h1 h2 l hl t t'
  have hlen := beginsF_len f w l
  obtain ⟨b, hb⟩ : ∃ b, beginsF f w l = b := ⟨_, rfl⟩
  rw [hb] at hB hlen ⊢
  have hE := end_v b.1 (by omega) .no (gf := 123) (fs := []) (cs := []) (fun b : List Vec => (b.head?.map Vec.m).getD 0) (fun hne => Earliest1_v b.1 hne (by omega) .no)
  unfold num at hB hE
  have HA : Hid (askF (fun b => (b.head?.map (·.m)).getD 0) b = if b.2 ≠ 0 then (0, b.2) else if b.1 = [] then (0, 210) else ((b.1.head?.map (·.m)).getD 0, 0)) := ⟨rfl⟩
  clear hb hlen
  refine VPure.of v_slot_Earliest_ok (Nat.le_of_ble_eq_true rfl) (fun Z st => ?_)
  simp only [v_slot_Earliest, ↓vD, vU, VE.ev, VE.evs, retvs, tupOf, grab, vfill, vbsl, eqCells, eqCell, veqs, veqs1, vmnx, AV.isCell, AV.isUndef, Nat.reduceEqDiff, Nat.reduceAdd, Nat.reduceSub, Nat.reduceLeDiff, Nat.reduceLT, reduceIte, reduceCtorEq, Nat.reduceBEq, k_app, k_slc1]
  by_cases h0 : b.2 = 0
  · (repeat' (first | (simp (config := { maxDischargeDepth := 16 }) only [*, num, vX, Int.reduceLE, Int.reduceLT, Int.reduceGE, Int.reduceGT, Int.reduceBEq, Int.reduceBNe, Int.reduceAdd, Int.reduceSub, Int.reduceMul, Int.reduceNeg, ↓vD, vU, VE.ev, VE.evs, retvs, tupOf, grab, vfill, vbsl, eqCells, eqCell, veqs, veqs1, vmnx, AV.isCell, AV.isUndef, Nat.reduceEqDiff, Nat.reduceAdd, Nat.reduceSub, Nat.reduceLeDiff, Nat.reduceLT, reduceIte, reduceCtorEq, Nat.reduceBEq]) | (simp (disch := first | assumption | omega | exact Seg.len _ | exact Vec.len _ | exact Leg.len _ | exact num_len _ | exact rowA_len _ | exact rowA_len | exact rowT_len _ | exact rowT_len | exact Seg.len | exact Vec.len | exact Leg.len | exact num_len | exact AV.slen _ _ | rfl) only [num, vP]) | (with_reducible (first | refine gsnd (fun _ => ?_) (fun _ => ?_) | refine csnd (fun _ => ?_) (fun _ => ?_) | refine gsd (fun _ => ?_) (fun _ => ?_) | refine csd (fun _ => ?_) (fun _ => ?_) | refine gsn (fun _ => ?_) (fun _ => ?_) | refine csn (fun _ => ?_) (fun _ => ?_))) | (with_reducible refine gs (fun _ => ?_) (fun _ => ?_)) | (with_reducible refine cs_ (fun _ => ?_) (fun _ => ?_)) | (with_reducible refine objQ_i (fun _ _ => ?_); (repeat (with_reducible refine imp_i (fun _ => ?_)))) | ((try with_reducible refine appK_a ?_); first | (with_reducible refine appD_F (by refine ⟨?_, ?_, ?_, ?_⟩ <;> (first | assumption | omega | exact St.has_add (by assumption) | (simp only [ins_has]; exact St.has_add (by assumption)) | (simp only [ins_has, fresh_ins, kill_ins, add_ins] at *; exact St.has_add (by assumption)) | (simp only [*, ins_has, has_full, St.has_add]; done) | (simp [-List.map_take, -List.map_drop, or_imp, forall_and, Seg.a, Vec.a, Leg.a, num, okEl, cells_agg, cells_int, cells_sl, cells_bool, AV.isCell]; done) | (simp; omega))) (fun _ _ => ?_)) | (with_reducible refine appD_V (by refine ⟨?_, ?_, ?_, ?_, ?_⟩ <;> (first | assumption | omega | exact St.has_add (by assumption) | (simp only [ins_has]; exact St.has_add (by assumption)) | (simp only [ins_has, fresh_ins, kill_ins, add_ins] at *; exact St.has_add (by assumption)) | (simp only [*, ins_has, has_full, St.has_add]; done) | (simp [-List.map_take, -List.map_drop, or_imp, forall_and, Seg.a, Vec.a, Leg.a, num, okEl, cells_agg, cells_int, cells_sl, cells_bool, AV.isCell]; done) | (simp; omega))) (fun _ _ => ?_))) | (with_reducible refine freshQ_i (fun _ _ => ?_)) | (with_reducible refine nilQ_i (fun _ _ => ?_)) | (with_reducible first | refine callH_use (hB) ?_ | refine pureQ_use (hB) ?_) | (with_reducible first | refine callH_use (hE) ?_ | refine pureQ_use (hE) ?_)))
    all_goals (rw [HA.out]; by_cases hn : b.1 = [] <;> simp [h0, hn])
  · (repeat' (first | (simp (config := { maxDischargeDepth := 16 }) only [*, num, vX, Int.reduceLE, Int.reduceLT, Int.reduceGE, Int.reduceGT, Int.reduceBEq, Int.reduceBNe, Int.reduceAdd, Int.reduceSub, Int.reduceMul, Int.reduceNeg, ↓vD, vU, VE.ev, VE.evs, retvs, tupOf, grab, vfill, vbsl, eqCells, eqCell, veqs, veqs1, vmnx, AV.isCell, AV.isUndef, Nat.reduceEqDiff, Nat.reduceAdd, Nat.reduceSub, Nat.reduceLeDiff, Nat.reduceLT, reduceIte, reduceCtorEq, Nat.reduceBEq]) | (simp (disch := first | assumption | omega | exact Seg.len _ | exact Vec.len _ | exact Leg.len _ | exact num_len _ | exact rowA_len _ | exact rowA_len | exact rowT_len _ | exact rowT_len | exact Seg.len | exact Vec.len | exact Leg.len | exact num_len | exact AV.slen _ _ | rfl) only [num, vP]) | (with_reducible (first | refine gsnd (fun _ => ?_) (fun _ => ?_) | refine csnd (fun _ => ?_) (fun _ => ?_) | refine gsd (fun _ => ?_) (fun _ => ?_) | refine csd (fun _ => ?_) (fun _ => ?_) | refine gsn (fun _ => ?_) (fun _ => ?_) | refine csn (fun _ => ?_) (fun _ => ?_))) | (with_reducible refine gs (fun _ => ?_) (fun _ => ?_)) | (with_reducible refine cs_ (fun _ => ?_) (fun _ => ?_)) | (with_reducible refine objQ_i (fun _ _ => ?_); (repeat (with_reducible refine imp_i (fun _ => ?_)))) | ((try with_reducible refine appK_a ?_); first | (with_reducible refine appD_F (by refine ⟨?_, ?_, ?_, ?_⟩ <;> (first | assumption | omega | exact St.has_add (by assumption) | (simp only [ins_has]; exact St.has_add (by assumption)) | (simp only [ins_has, fresh_ins, kill_ins, add_ins] at *; exact St.has_add (by assumption)) | (simp only [*, ins_has, has_full, St.has_add]; done) | (simp [-List.map_take, -List.map_drop, or_imp, forall_and, Seg.a, Vec.a, Leg.a, num, okEl, cells_agg, cells_int, cells_sl, cells_bool, AV.isCell]; done) | (simp; omega))) (fun _ _ => ?_)) | (with_reducible refine appD_V (by refine ⟨?_, ?_, ?_, ?_, ?_⟩ <;> (first | assumption | omega | exact St.has_add (by assumption) | (simp only [ins_has]; exact St.has_add (by assumption)) | (simp only [ins_has, fresh_ins, kill_ins, add_ins] at *; exact St.has_add (by assumption)) | (simp only [*, ins_has, has_full, St.has_add]; done) | (simp [-List.map_take, -List.map_drop, or_imp, forall_and, Seg.a, Vec.a, Leg.a, num, okEl, cells_agg, cells_int, cells_sl, cells_bool, AV.isCell]; done) | (simp; omega))) (fun _ _ => ?_))) | (with_reducible refine freshQ_i (fun _ _ => ?_)) | (with_reducible refine nilQ_i (fun _ _ => ?_)) | (with_reducible first | refine callH_use (hB) ?_ | refine pureQ_use (hB) ?_) | (with_reducible first | refine callH_use (hE) ?_ | refine pureQ_use (hE) ?_)))
    all_goals (rw [HA.out]; simp [h0])
theorem Latest_c (f : List Seg) (hf : f.length ≤ 1000000) (w : Vec) (h1 : -9223372036854775808 ≤ w.m) (h2 : w.c ≤ 9223372036854775807) (l : List Leg) (hl : l.length ≤ 1000000000) (t t' : Tok) :
    VPure Try.prog 80 [.sl (f.map Seg.a) t, .agg [.int .i64 w.m, .int .i64 w.c], .sl (l.map Leg.a) t'] (.tup [num (askF (fun b => (b.getLast?.map (·.c)).getD 0 - 1) (beginsF f w l)).1, num (askF (fun b => (b.getLast?.map (·.c)).getD 0 - 1) (beginsF f w l)).2]) := by
  have hB := Begins_c f hf w h1 h2 l hl t t'
  have hlen := beginsF_len f w l
  obtain ⟨b, hb⟩ : ∃ b, beginsF f w l = b := ⟨_, rfl⟩
  rw [hb] at hB hlen ⊢
  have hE := end_v b.1 (by omega) .no (gf := 124) (fs := []) (cs := []) (fun b : List Vec => (b.getLast?.map Vec.c).getD 0 - 1) (fun hne => Latest1_v b.1 hne (by omega) hlen.2 .no)
  unfold num at hB hE
  have HA : Hid (askF (fun b => (b.getLast?.map (·.c)).getD 0 - 1) b = if b.2 ≠ 0 then (0, b.2) else if b.1 = [] then (0, 210) else ((b.1.getLast?.map (·.c)).getD 0 - 1, 0)) := ⟨rfl⟩
  clear hb hlen
  refine VPure.of v_slot_Latest_ok (Nat.le_of_ble_eq_true rfl) (fun Z st => ?_)
  simp only [v_slot_Latest, ↓vD, vU, VE.ev, VE.evs, retvs, tupOf, grab, vfill, vbsl, eqCells, eqCell, veqs, veqs1, vmnx, AV.isCell, AV.isUndef, Nat.reduceEqDiff, Nat.reduceAdd, Nat.reduceSub, Nat.reduceLeDiff, Nat.reduceLT, reduceIte, reduceCtorEq, Nat.reduceBEq, k_app, k_slc1]
  by_cases h0 : b.2 = 0
  · (repeat' (first | (simp (config := { maxDischargeDepth := 16 }) only [*, num, vX, Int.reduceLE, Int.reduceLT, Int.reduceGE, Int.reduceGT, Int.reduceBEq, Int.reduceBNe, Int.reduceAdd, Int.reduceSub, Int.reduceMul, Int.reduceNeg, ↓vD, vU, VE.ev, VE.evs, retvs, tupOf, grab, vfill, vbsl, eqCells, eqCell, veqs, veqs1, vmnx, AV.isCell, AV.isUndef, Nat.reduceEqDiff, Nat.reduceAdd, Nat.reduceSub, Nat.reduceLeDiff, Nat.reduceLT, reduceIte, reduceCtorEq, Nat.reduceBEq]) | (simp (disch := first | assumption | omega | exact Seg.len _ | exact Vec.len _ | exact Leg.len _ | exact num_len _ | exact rowA_len _ | exact rowA_len | exact rowT_len _ | exact rowT_len | exact Seg.len | exact Vec.len | exact Leg.len | exact num_len | exact AV.slen _ _ | rfl) only [num, vP]) | (with_reducible (first | refine gsnd (fun _ => ?_) (fun _ => ?_) | refine csnd (fun _ => ?_) (fun _ => ?_) | refine gsd (fun _ => ?_) (fun _ => ?_) | refine csd (fun _ => ?_) (fun _ => ?_) | refine gsn (fun _ => ?_) (fun _ => ?_) | refine csn (fun _ => ?_) (fun _ => ?_))) | (with_reducible refine gs (fun _ => ?_) (fun _ => ?_)) | (with_reducible refine cs_ (fun _ => ?_) (fun _ => ?_)) | (with_reducible refine objQ_i (fun _ _ => ?_); (repeat (with_reducible refine imp_i (fun _ => ?_)))) | ((try with_reducible refine appK_a ?_); first | (with_reducible refine appD_F (by refine ⟨?_, ?_, ?_, ?_⟩ <;> (first | assumption | omega | exact St.has_add (by assumption) | (simp only [ins_has]; exact St.has_add (by assumption)) | (simp only [ins_has, fresh_ins, kill_ins, add_ins] at *; exact St.has_add (by assumption)) | (simp only [*, ins_has, has_full, St.has_add]; done) | (simp [-List.map_take, -List.map_drop, or_imp, forall_and, Seg.a, Vec.a, Leg.a, num, okEl, cells_agg, cells_int, cells_sl, cells_bool, AV.isCell]; done) | (simp; omega))) (fun _ _ => ?_)) | (with_reducible refine appD_V (by refine ⟨?_, ?_, ?_, ?_, ?_⟩ <;> (first | assumption | omega | exact St.has_add (by assumption) | (simp only [ins_has]; exact St.has_add (by assumption)) | (simp only [ins_has, fresh_ins, kill_ins, add_ins] at *; exact St.has_add (by assumption)) | (simp only [*, ins_has, has_full, St.has_add]; done) | (simp [-List.map_take, -List.map_drop, or_imp, forall_and, Seg.a, Vec.a, Leg.a, num, okEl, cells_agg, cells_int, cells_sl, cells_bool, AV.isCell]; done) | (simp; omega))) (fun _ _ => ?_))) | (with_reducible refine freshQ_i (fun _ _ => ?_)) | (with_reducible refine nilQ_i (fun _ _ => ?_)) | (with_reducible first | refine callH_use (hB) ?_ | refine pureQ_use (hB) ?_) | (with_reducible first | refine callH_use (hE) ?_ | refine pureQ_use (hE) ?_)))
    all_goals (rw [HA.out]; by_cases hn : b.1 = [] <;> simp [h0, hn])
  · (repeat' (first | (simp (config := { maxDischargeDepth := 16 }) only [*, num, vX, Int.reduceLE, Int.reduceLT, Int.reduceGE, Int.reduceGT, Int.reduceBEq, Int.reduceBNe, Int.reduceAdd, Int.reduceSub, Int.reduceMul, Int.reduceNeg, ↓vD, vU, VE.ev, VE.evs, retvs, tupOf, grab, vfill, vbsl, eqCells, eqCell, veqs, veqs1, vmnx, AV.isCell, AV.isUndef, Nat.reduceEqDiff, Nat.reduceAdd, Nat.reduceSub, Nat.reduceLeDiff, Nat.reduceLT, reduceIte, reduceCtorEq, Nat.reduceBEq]) | (simp (disch := first | assumption | omega | exact Seg.len _ | exact Vec.len _ | exact Leg.len _ | exact num_len _ | exact rowA_len _ | exact rowA_len | exact rowT_len _ | exact rowT_len | exact Seg.len | exact Vec.len | exact Leg.len | exact num_len | exact AV.slen _ _ | rfl) only [num, vP]) | (with_reducible (first | refine gsnd (fun _ => ?_) (fun _ => ?_) | refine csnd (fun _ => ?_) (fun _ => ?_) | refine gsd (fun _ => ?_) (fun _ => ?_) | refine csd (fun _ => ?_) (fun _ => ?_) | refine gsn (fun _ => ?_) (fun _ => ?_) | refine csn (fun _ => ?_) (fun _ => ?_))) | (with_reducible refine gs (fun _ => ?_) (fun _ => ?_)) | (with_reducible refine cs_ (fun _ => ?_) (fun _ => ?_)) | (with_reducible refine objQ_i (fun _ _ => ?_); (repeat (with_reducible refine imp_i (fun _ => ?_)))) | ((try with_reducible refine appK_a ?_); first | (with_reducible refine appD_F (by refine ⟨?_, ?_, ?_, ?_⟩ <;> (first | assumption | omega | exact St.has_add (by assumption) | (simp only [ins_has]; exact St.has_add (by assumption)) | (simp only [ins_has, fresh_ins, kill_ins, add_ins] at *; exact St.has_add (by assumption)) | (simp only [*, ins_has, has_full, St.has_add]; done) | (simp [-List.map_take, -List.map_drop, or_imp, forall_and, Seg.a, Vec.a, Leg.a, num, okEl, cells_agg, cells_int, cells_sl, cells_bool, AV.isCell]; done) | (simp; omega))) (fun _ _ => ?_)) | (with_reducible refine appD_V (by refine ⟨?_, ?_, ?_, ?_, ?_⟩ <;> (first | assumption | omega | exact St.has_add (by assumption) | (simp only [ins_has]; exact St.has_add (by assumption)) | (simp only [ins_has, fresh_ins, kill_ins, add_ins] at *; exact St.has_add (by assumption)) | (simp only [*, ins_has, has_full, St.has_add]; done) | (simp [-List.map_take, -List.map_drop, or_imp, forall_and, Seg.a, Vec.a, Leg.a, num, okEl, cells_agg, cells_int, cells_sl, cells_bool, AV.isCell]; done) | (simp; omega))) (fun _ _ => ?_))) | (with_reducible refine freshQ_i (fun _ _ => ?_)) | (with_reducible refine nilQ_i (fun _ _ => ?_)) | (with_reducible first | refine callH_use (hB) ?_ | refine pureQ_use (hB) ?_) | (with_reducible first | refine callH_use (hE) ?_ | refine pureQ_use (hE) ?_)))
    all_goals (rw [HA.out]; simp [h0])
theorem Same_16 (a b : List Vec) (ha : a.length ≤ 1000000000) (t t' : Tok) : VPure Try.prog 43 [.sl (a.map Vec.a) t, .sl (b.map Vec.a) t'] (.bool (a == b)) := by
  refine VPure.of v_liveryref16_Same_ok (Nat.le_of_ble_eq_true rfl) (fun Z st => ?_)
  simp only [v_liveryref16_Same, ↓vD, vU, VE.ev, VE.evs, retvs, tupOf, grab, vfill, vbsl, eqCells, eqCell, veqs, veqs1, vmnx, AV.isCell, AV.isUndef, Nat.reduceEqDiff, Nat.reduceAdd, Nat.reduceSub, Nat.reduceLeDiff, Nat.reduceLT, reduceIte, reduceCtorEq, Nat.reduceBEq, k_app, k_slc1]
  (repeat' (first | (simp (config := { maxDischargeDepth := 16 }) only [*, vX, Int.reduceLE, Int.reduceLT, Int.reduceGE, Int.reduceGT, Int.reduceBEq, Int.reduceBNe, Int.reduceAdd, Int.reduceSub, Int.reduceMul, Int.reduceNeg, ↓vD, vU, VE.ev, VE.evs, retvs, tupOf, grab, vfill, vbsl, eqCells, eqCell, veqs, veqs1, vmnx, AV.isCell, AV.isUndef, Nat.reduceEqDiff, Nat.reduceAdd, Nat.reduceSub, Nat.reduceLeDiff, Nat.reduceLT, reduceIte, reduceCtorEq, Nat.reduceBEq]) | (simp (disch := first | assumption | omega | exact Seg.len _ | exact Vec.len _ | exact Leg.len _ | exact num_len _ | exact rowA_len _ | exact rowA_len | exact rowT_len _ | exact rowT_len | exact Seg.len | exact Vec.len | exact Leg.len | exact num_len | exact AV.slen _ _ | rfl) only [vP]) | (with_reducible (first | refine gsnd (fun _ => ?_) (fun _ => ?_) | refine csnd (fun _ => ?_) (fun _ => ?_) | refine gsd (fun _ => ?_) (fun _ => ?_) | refine csd (fun _ => ?_) (fun _ => ?_) | refine gsn (fun _ => ?_) (fun _ => ?_) | refine csn (fun _ => ?_) (fun _ => ?_))) | (with_reducible refine gs (fun _ => ?_) (fun _ => ?_)) | (with_reducible refine cs_ (fun _ => ?_) (fun _ => ?_)) | (with_reducible refine objQ_i (fun _ _ => ?_); (repeat (with_reducible refine imp_i (fun _ => ?_)))) | ((try with_reducible refine appK_a ?_); first | (with_reducible refine appD_F (by refine ⟨?_, ?_, ?_, ?_⟩ <;> (first | assumption | omega | exact St.has_add (by assumption) | (simp only [ins_has]; exact St.has_add (by assumption)) | (simp only [ins_has, fresh_ins, kill_ins, add_ins] at *; exact St.has_add (by assumption)) | (simp only [*, ins_has, has_full, St.has_add]; done) | (simp [-List.map_take, -List.map_drop, or_imp, forall_and, Seg.a, Vec.a, Leg.a, num, okEl, cells_agg, cells_int, cells_sl, cells_bool, AV.isCell]; done) | (simp; omega))) (fun _ _ => ?_)) | (with_reducible refine appD_V (by refine ⟨?_, ?_, ?_, ?_, ?_⟩ <;> (first | assumption | omega | exact St.has_add (by assumption) | (simp only [ins_has]; exact St.has_add (by assumption)) | (simp only [ins_has, fresh_ins, kill_ins, add_ins] at *; exact St.has_add (by assumption)) | (simp only [*, ins_has, has_full, St.has_add]; done) | (simp [-List.map_take, -List.map_drop, or_imp, forall_and, Seg.a, Vec.a, Leg.a, num, okEl, cells_agg, cells_int, cells_sl, cells_bool, AV.isCell]; done) | (simp; omega))) (fun _ _ => ?_))) | (with_reducible refine freshQ_i (fun _ _ => ?_)) | (with_reducible refine nilQ_i (fun _ _ => ?_))))
  · rename_i h
    have hne : a ≠ b := fun e => by subst e; simp at h
    simp [hne]
  · rename_i h
    have hl : a.length = b.length := by first | omega | (simp at h; omega)
    clear h
    refine loopf_of (len := a.length) (by simp only [asgL, dsts, List.cons_append, List.nil_append, List.append_nil]; rfl) (by simp only [noR, Bool.and_true, Bool.and_false]; rfl) (by omega) (fun k fr s => s = st ∧ fr.t 5 = .int .i64 k ∧ a.take k = b.take k) ?_ ?_ ?_
    · simp [↓vD, vU, VE.ev, VE.evs, retvs, tupOf, grab, vfill, vbsl, eqCells, eqCell, veqs, veqs1, vmnx, AV.isCell, AV.isUndef, Nat.reduceEqDiff, Nat.reduceAdd, Nat.reduceSub, Nat.reduceLeDiff, Nat.reduceLT, reduceIte, reduceCtorEq, Nat.reduceBEq, k_app, k_slc1]
    · rintro k fr s hk hw hfr hd ⟨rfl, h13, hp⟩
      have hk' : k < b.length := by omega
      (repeat' (first | (simp (config := { maxDischargeDepth := 16 }) only [*, Vec.a, vX, Int.reduceLE, Int.reduceLT, Int.reduceGE, Int.reduceGT, Int.reduceBEq, Int.reduceBNe, Int.reduceAdd, Int.reduceSub, Int.reduceMul, Int.reduceNeg, ↓vD, vU, VE.ev, VE.evs, retvs, tupOf, grab, vfill, vbsl, eqCells, eqCell, veqs, veqs1, vmnx, AV.isCell, AV.isUndef, Nat.reduceEqDiff, Nat.reduceAdd, Nat.reduceSub, Nat.reduceLeDiff, Nat.reduceLT, reduceIte, reduceCtorEq, Nat.reduceBEq]) | (simp (disch := first | assumption | omega | exact Seg.len _ | exact Vec.len _ | exact Leg.len _ | exact num_len _ | exact rowA_len _ | exact rowA_len | exact rowT_len _ | exact rowT_len | exact Seg.len | exact Vec.len | exact Leg.len | exact num_len | exact AV.slen _ _ | rfl) only [Vec.a, vP]) | (with_reducible (first | refine gsnd (fun _ => ?_) (fun _ => ?_) | refine csnd (fun _ => ?_) (fun _ => ?_) | refine gsd (fun _ => ?_) (fun _ => ?_) | refine csd (fun _ => ?_) (fun _ => ?_) | refine gsn (fun _ => ?_) (fun _ => ?_) | refine csn (fun _ => ?_) (fun _ => ?_))) | (with_reducible refine gs (fun _ => ?_) (fun _ => ?_)) | (with_reducible refine cs_ (fun _ => ?_) (fun _ => ?_)) | (with_reducible refine objQ_i (fun _ _ => ?_); (repeat (with_reducible refine imp_i (fun _ => ?_)))) | ((try with_reducible refine appK_a ?_); first | (with_reducible refine appD_F (by refine ⟨?_, ?_, ?_, ?_⟩ <;> (first | assumption | omega | exact St.has_add (by assumption) | (simp only [ins_has]; exact St.has_add (by assumption)) | (simp only [ins_has, fresh_ins, kill_ins, add_ins] at *; exact St.has_add (by assumption)) | (simp only [*, ins_has, has_full, St.has_add]; done) | (simp [-List.map_take, -List.map_drop, or_imp, forall_and, Seg.a, Vec.a, Leg.a, num, okEl, cells_agg, cells_int, cells_sl, cells_bool, AV.isCell]; done) | (simp; omega))) (fun _ _ => ?_)) | (with_reducible refine appD_V (by refine ⟨?_, ?_, ?_, ?_, ?_⟩ <;> (first | assumption | omega | exact St.has_add (by assumption) | (simp only [ins_has]; exact St.has_add (by assumption)) | (simp only [ins_has, fresh_ins, kill_ins, add_ins] at *; exact St.has_add (by assumption)) | (simp only [*, ins_has, has_full, St.has_add]; done) | (simp [-List.map_take, -List.map_drop, or_imp, forall_and, Seg.a, Vec.a, Leg.a, num, okEl, cells_agg, cells_int, cells_sl, cells_bool, AV.isCell]; done) | (simp; omega))) (fun _ _ => ?_))) | (with_reducible refine freshQ_i (fun _ _ => ?_)) | (with_reducible refine nilQ_i (fun _ _ => ?_))))
      · rename_i hc
        have hne : a ≠ b := fun e => by subst e; simp at hc
        simp [hne]
      · rename_i hc
        have he : a[k] = b[k] := by
          have := vec_beq a[k] b[k]
          try simp only [Bool.not_eq_false'] at hc
          rw [hc] at this
          exact eq_of_beq this
        rw [List.take_add_one, List.take_add_one, hp, List.getElem?_eq_getElem hk, List.getElem?_eq_getElem hk', he]
    · rintro fr s hfr hd ⟨rfl, h13, hp⟩
      (repeat' (first | (simp (config := { maxDischargeDepth := 16 }) only [*, vX, Int.reduceLE, Int.reduceLT, Int.reduceGE, Int.reduceGT, Int.reduceBEq, Int.reduceBNe, Int.reduceAdd, Int.reduceSub, Int.reduceMul, Int.reduceNeg, ↓vD, vU, VE.ev, VE.evs, retvs, tupOf, grab, vfill, vbsl, eqCells, eqCell, veqs, veqs1, vmnx, AV.isCell, AV.isUndef, Nat.reduceEqDiff, Nat.reduceAdd, Nat.reduceSub, Nat.reduceLeDiff, Nat.reduceLT, reduceIte, reduceCtorEq, Nat.reduceBEq]) | (simp (disch := first | assumption | omega | exact Seg.len _ | exact Vec.len _ | exact Leg.len _ | exact num_len _ | exact rowA_len _ | exact rowA_len | exact rowT_len _ | exact rowT_len | exact Seg.len | exact Vec.len | exact Leg.len | exact num_len | exact AV.slen _ _ | rfl) only [vP]) | (with_reducible (first | refine gsnd (fun _ => ?_) (fun _ => ?_) | refine csnd (fun _ => ?_) (fun _ => ?_) | refine gsd (fun _ => ?_) (fun _ => ?_) | refine csd (fun _ => ?_) (fun _ => ?_) | refine gsn (fun _ => ?_) (fun _ => ?_) | refine csn (fun _ => ?_) (fun _ => ?_))) | (with_reducible refine gs (fun _ => ?_) (fun _ => ?_)) | (with_reducible refine cs_ (fun _ => ?_) (fun _ => ?_)) | (with_reducible refine objQ_i (fun _ _ => ?_); (repeat (with_reducible refine imp_i (fun _ => ?_)))) | ((try with_reducible refine appK_a ?_); first | (with_reducible refine appD_F (by refine ⟨?_, ?_, ?_, ?_⟩ <;> (first | assumption | omega | exact St.has_add (by assumption) | (simp only [ins_has]; exact St.has_add (by assumption)) | (simp only [ins_has, fresh_ins, kill_ins, add_ins] at *; exact St.has_add (by assumption)) | (simp only [*, ins_has, has_full, St.has_add]; done) | (simp [-List.map_take, -List.map_drop, or_imp, forall_and, Seg.a, Vec.a, Leg.a, num, okEl, cells_agg, cells_int, cells_sl, cells_bool, AV.isCell]; done) | (simp; omega))) (fun _ _ => ?_)) | (with_reducible refine appD_V (by refine ⟨?_, ?_, ?_, ?_, ?_⟩ <;> (first | assumption | omega | exact St.has_add (by assumption) | (simp only [ins_has]; exact St.has_add (by assumption)) | (simp only [ins_has, fresh_ins, kill_ins, add_ins] at *; exact St.has_add (by assumption)) | (simp only [*, ins_has, has_full, St.has_add]; done) | (simp [-List.map_take, -List.map_drop, or_imp, forall_and, Seg.a, Vec.a, Leg.a, num, okEl, cells_agg, cells_int, cells_sl, cells_bool, AV.isCell]; done) | (simp; omega))) (fun _ _ => ?_))) | (with_reducible refine freshQ_i (fun _ _ => ?_)) | (with_reducible refine nilQ_i (fun _ _ => ?_))))
      rw [List.take_length, hl, List.take_length] at hp
      simp [hp]
theorem v_16 (n : Int) : VPure Try.prog 44 [.int .i64 n] (.agg [.int .i64 n, .int .i64 n]) := by
  refine VPure.of v_liverylaw16_v_ok (Nat.le_of_ble_eq_true rfl) (fun Z st => ?_)
  simp only [v_liverylaw16_v, ↓vD, vU, VE.ev, VE.evs, retvs, tupOf, grab, vfill, vbsl, eqCells, eqCell, veqs, veqs1, vmnx, AV.isCell, AV.isUndef, Nat.reduceEqDiff, Nat.reduceAdd, Nat.reduceSub, Nat.reduceLeDiff, Nat.reduceLT, reduceIte, reduceCtorEq, Nat.reduceBEq, k_app, k_slc1]
  (repeat' (first | (simp (config := { maxDischargeDepth := 16 }) only [*, vX, Int.reduceLE, Int.reduceLT, Int.reduceGE, Int.reduceGT, Int.reduceBEq, Int.reduceBNe, Int.reduceAdd, Int.reduceSub, Int.reduceMul, Int.reduceNeg, ↓vD, vU, VE.ev, VE.evs, retvs, tupOf, grab, vfill, vbsl, eqCells, eqCell, veqs, veqs1, vmnx, AV.isCell, AV.isUndef, Nat.reduceEqDiff, Nat.reduceAdd, Nat.reduceSub, Nat.reduceLeDiff, Nat.reduceLT, reduceIte, reduceCtorEq, Nat.reduceBEq]) | (simp (disch := first | assumption | omega | exact Seg.len _ | exact Vec.len _ | exact Leg.len _ | exact num_len _ | exact rowA_len _ | exact rowA_len | exact rowT_len _ | exact rowT_len | exact Seg.len | exact Vec.len | exact Leg.len | exact num_len | exact AV.slen _ _ | rfl) only [vP]) | (with_reducible (first | refine gsnd (fun _ => ?_) (fun _ => ?_) | refine csnd (fun _ => ?_) (fun _ => ?_) | refine gsd (fun _ => ?_) (fun _ => ?_) | refine csd (fun _ => ?_) (fun _ => ?_) | refine gsn (fun _ => ?_) (fun _ => ?_) | refine csn (fun _ => ?_) (fun _ => ?_))) | (with_reducible refine gs (fun _ => ?_) (fun _ => ?_)) | (with_reducible refine cs_ (fun _ => ?_) (fun _ => ?_)) | (with_reducible refine objQ_i (fun _ _ => ?_); (repeat (with_reducible refine imp_i (fun _ => ?_)))) | ((try with_reducible refine appK_a ?_); first | (with_reducible refine appD_F (by refine ⟨?_, ?_, ?_, ?_⟩ <;> (first | assumption | omega | exact St.has_add (by assumption) | (simp only [ins_has]; exact St.has_add (by assumption)) | (simp only [ins_has, fresh_ins, kill_ins, add_ins] at *; exact St.has_add (by assumption)) | (simp only [*, ins_has, has_full, St.has_add]; done) | (simp [-List.map_take, -List.map_drop, or_imp, forall_and, Seg.a, Vec.a, Leg.a, num, okEl, cells_agg, cells_int, cells_sl, cells_bool, AV.isCell]; done) | (simp; omega))) (fun _ _ => ?_)) | (with_reducible refine appD_V (by refine ⟨?_, ?_, ?_, ?_, ?_⟩ <;> (first | assumption | omega | exact St.has_add (by assumption) | (simp only [ins_has]; exact St.has_add (by assumption)) | (simp only [ins_has, fresh_ins, kill_ins, add_ins] at *; exact St.has_add (by assumption)) | (simp only [*, ins_has, has_full, St.has_add]; done) | (simp [-List.map_take, -List.map_drop, or_imp, forall_and, Seg.a, Vec.a, Leg.a, num, okEl, cells_agg, cells_int, cells_sl, cells_bool, AV.isCell]; done) | (simp; omega))) (fun _ _ => ?_))) | (with_reducible refine freshQ_i (fun _ _ => ?_)) | (with_reducible refine nilQ_i (fun _ _ => ?_))))
def greatF (f : List Seg) (w : Vec) (l : List Leg) : Bool := decide (60 < f.length) || decide (30 < l.length) || (decide (w.m < w.c) && decide (150 < wr (w.c - w.m)) && decide (wr (w.c - w.m) ≤ 4096))
theorem great_16 (f : List Seg) (hf : (f.length : Int) ≤ 9223372036854775807) (w : Vec) (l : List Leg) (hl : (l.length : Int) ≤ 9223372036854775807) (t t' : Tok) :
    VPure Try.prog 40 [.sl (f.map Seg.a) t, .agg [.int .i64 w.m, .int .i64 w.c], .sl (l.map Leg.a) t'] (.bool (greatF f w l)) := by
  refine VPure.of v_liverylaw16_great_ok (Nat.le_of_ble_eq_true rfl) (fun Z st => ?_)
  obtain ⟨d, hd⟩ : ∃ d, IntKind.i64.wrap (w.c - w.m) = d := ⟨_, rfl⟩
  have HG : Hid (greatF f w l = (decide (60 < f.length) || decide (30 < l.length) || (decide (w.m < w.c) && decide (150 < d) && decide (d ≤ 4096)))) := ⟨by unfold greatF wr; rw [hd]⟩
  rw [HG.out]
  simp only [v_liverylaw16_great, ↓vD, vU, VE.ev, VE.evs, retvs, tupOf, grab, vfill, vbsl, eqCells, eqCell, veqs, veqs1, vmnx, AV.isCell, AV.isUndef, Nat.reduceEqDiff, Nat.reduceAdd, Nat.reduceSub, Nat.reduceLeDiff, Nat.reduceLT, reduceIte, reduceCtorEq, Nat.reduceBEq, k_app, k_slc1]
  (repeat' (first | (simp (config := { maxDischargeDepth := 16 }) only [*, vX, Int.reduceLE, Int.reduceLT, Int.reduceGE, Int.reduceGT, Int.reduceBEq, Int.reduceBNe, Int.reduceAdd, Int.reduceSub, Int.reduceMul, Int.reduceNeg, ↓vD, vU, VE.ev, VE.evs, retvs, tupOf, grab, vfill, vbsl, eqCells, eqCell, veqs, veqs1, vmnx, AV.isCell, AV.isUndef, Nat.reduceEqDiff, Nat.reduceAdd, Nat.reduceSub, Nat.reduceLeDiff, Nat.reduceLT, reduceIte, reduceCtorEq, Nat.reduceBEq]) | (simp (disch := first | assumption | omega | exact Seg.len _ | exact Vec.len _ | exact Leg.len _ | exact num_len _ | exact rowA_len _ | exact rowA_len | exact rowT_len _ | exact rowT_len | exact Seg.len | exact Vec.len | exact Leg.len | exact num_len | exact AV.slen _ _ | rfl) only [vP]) | (with_reducible (first | refine gsnd (fun _ => ?_) (fun _ => ?_) | refine csnd (fun _ => ?_) (fun _ => ?_) | refine gsd (fun _ => ?_) (fun _ => ?_) | refine csd (fun _ => ?_) (fun _ => ?_) | refine gsn (fun _ => ?_) (fun _ => ?_) | refine csn (fun _ => ?_) (fun _ => ?_))) | (with_reducible refine gs (fun _ => ?_) (fun _ => ?_)) | (with_reducible refine cs_ (fun _ => ?_) (fun _ => ?_)) | (with_reducible refine objQ_i (fun _ _ => ?_); (repeat (with_reducible refine imp_i (fun _ => ?_)))) | ((try with_reducible refine appK_a ?_); first | (with_reducible refine appD_F (by refine ⟨?_, ?_, ?_, ?_⟩ <;> (first | assumption | omega | exact St.has_add (by assumption) | (simp only [ins_has]; exact St.has_add (by assumption)) | (simp only [ins_has, fresh_ins, kill_ins, add_ins] at *; exact St.has_add (by assumption)) | (simp only [*, ins_has, has_full, St.has_add]; done) | (simp [-List.map_take, -List.map_drop, or_imp, forall_and, Seg.a, Vec.a, Leg.a, num, okEl, cells_agg, cells_int, cells_sl, cells_bool, AV.isCell]; done) | (simp; omega))) (fun _ _ => ?_)) | (with_reducible refine appD_V (by refine ⟨?_, ?_, ?_, ?_, ?_⟩ <;> (first | assumption | omega | exact St.has_add (by assumption) | (simp only [ins_has]; exact St.has_add (by assumption)) | (simp only [ins_has, fresh_ins, kill_ins, add_ins] at *; exact St.has_add (by assumption)) | (simp only [*, ins_has, has_full, St.has_add]; done) | (simp [-List.map_take, -List.map_drop, or_imp, forall_and, Seg.a, Vec.a, Leg.a, num, okEl, cells_agg, cells_int, cells_sl, cells_bool, AV.isCell]; done) | (simp; omega))) (fun _ _ => ?_))) | (with_reducible refine freshQ_i (fun _ _ => ?_)) | (with_reducible refine nilQ_i (fun _ _ => ?_))))
  (all_goals (first | rfl | (simp_all; done) | (simp_all <;> omega)))
def fH : List Seg := [⟨0, ⟨5, 5⟩⟩, ⟨10, ⟨2, 2⟩⟩, ⟨12, ⟨5, 5⟩⟩, ⟨20, ⟨0, 0⟩⟩]
def lH : List Leg := [⟨4, ⟨3, 3⟩⟩]
def mH : List Leg := [⟨4, ⟨3, 3⟩⟩, ⟨2, ⟨1, 1⟩⟩]
theorem b1H : beginsF fH ⟨0, 30⟩ lH = ([⟨0, 7⟩, ⟨12, 17⟩], 0) := by decide
theorem b2H : beginsF fH ⟨7, 30⟩ lH = ([⟨12, 17⟩], 0) := by decide
theorem b3H : beginsF fH ⟨0, 30⟩ mH = ([⟨0, 7⟩, ⟨12, 15⟩], 0) := by decide
theorem b4H : beginsF fH ⟨7, 15⟩ lH = ([], 0) := by decide
theorem b5H : beginsF fH ⟨7, 7⟩ lH = ([], 2) := by decide
theorem l1H : lengthF mH = (6, 0) := by decide
theorem head_16 : VPure Try.prog 41 [] (.bool true) := by
  have a1 := Begins_c fH (by simp [fH]) ⟨0, 30⟩ (by simp) (by simp) lH (by simp [lH]) .full .full
  have a2 := Earliest_c fH (by simp [fH]) ⟨0, 30⟩ (by simp) (by simp) lH (by simp [lH]) .full .full
  have a3 := Latest_c fH (by simp [fH]) ⟨0, 30⟩ (by simp) (by simp) lH (by simp [lH]) .full .full
  have a4 := Earliest_c fH (by simp [fH]) ⟨7, 30⟩ (by simp) (by simp) lH (by simp [lH]) .full .full
  have a5 := Begins_c fH (by simp [fH]) ⟨0, 30⟩ (by simp) (by simp) mH (by simp [mH]) .full .full
  have a6 := Length_v mH (by simp [mH]) .full
  have a7 := Earliest_c fH (by simp [fH]) ⟨7, 15⟩ (by simp) (by simp) lH (by simp [lH]) .full .full
  have a8 := Earliest_c fH (by simp [fH]) ⟨7, 7⟩ (by simp) (by simp) lH (by simp [lH]) .full .full
  have s1 := Same_16 [⟨0, 7⟩, ⟨12, 17⟩] [⟨0, 7⟩, ⟨12, 17⟩] (by simp) .no .full
  have s2 := Same_16 [⟨0, 7⟩, ⟨12, 15⟩] [⟨0, 7⟩, ⟨12, 15⟩] (by simp) .no .full
  simp only [beq_self_eq_true] at s1 s2
  rw [b1H] at a1 a2 a3
  rw [b2H] at a4
  rw [b3H] at a5
  rw [l1H] at a6
  rw [b4H] at a7
  rw [b5H] at a8
  simp [askF] at a2 a3 a4 a7 a8
  simp only [fH, lH, mH, List.map_cons, List.map_nil, Seg.a, Leg.a, Vec.a, num] at a1 a2 a3 a4 a5 a6 a7 a8 s1 s2
  refine VPure.of v_liverylaw16_head_ok (Nat.le_of_ble_eq_true rfl) (fun Z st => ?_)
  simp only [v_liverylaw16_head, ↓vD, vU, VE.ev, VE.evs, retvs, tupOf, grab, vfill, vbsl, eqCells, eqCell, veqs, veqs1, vmnx, AV.isCell, AV.isUndef, Nat.reduceEqDiff, Nat.reduceAdd, Nat.reduceSub, Nat.reduceLeDiff, Nat.reduceLT, reduceIte, reduceCtorEq, Nat.reduceBEq, k_app, k_slc1]
  (repeat' (first | (simp (config := { maxDischargeDepth := 16 }) only [*, vX, Int.reduceLE, Int.reduceLT, Int.reduceGE, Int.reduceGT, Int.reduceBEq, Int.reduceBNe, Int.reduceAdd, Int.reduceSub, Int.reduceMul, Int.reduceNeg, ↓vD, vU, VE.ev, VE.evs, retvs, tupOf, grab, vfill, vbsl, eqCells, eqCell, veqs, veqs1, vmnx, AV.isCell, AV.isUndef, Nat.reduceEqDiff, Nat.reduceAdd, Nat.reduceSub, Nat.reduceLeDiff, Nat.reduceLT, reduceIte, reduceCtorEq, Nat.reduceBEq]) | (simp (disch := first | assumption | omega | exact Seg.len _ | exact Vec.len _ | exact Leg.len _ | exact num_len _ | exact rowA_len _ | exact rowA_len | exact rowT_len _ | exact rowT_len | exact Seg.len | exact Vec.len | exact Leg.len | exact num_len | exact AV.slen _ _ | rfl) only [vP]) | (with_reducible (first | refine gsnd (fun _ => ?_) (fun _ => ?_) | refine csnd (fun _ => ?_) (fun _ => ?_) | refine gsd (fun _ => ?_) (fun _ => ?_) | refine csd (fun _ => ?_) (fun _ => ?_) | refine gsn (fun _ => ?_) (fun _ => ?_) | refine csn (fun _ => ?_) (fun _ => ?_))) | (with_reducible refine gs (fun _ => ?_) (fun _ => ?_)) | (with_reducible refine cs_ (fun _ => ?_) (fun _ => ?_)) | (with_reducible refine objQ_i (fun _ _ => ?_); (repeat (with_reducible refine imp_i (fun _ => ?_)))) | ((try with_reducible refine appK_a ?_); first | (with_reducible refine appD_F (by refine ⟨?_, ?_, ?_, ?_⟩ <;> (first | assumption | omega | exact St.has_add (by assumption) | (simp only [ins_has]; exact St.has_add (by assumption)) | (simp only [ins_has, fresh_ins, kill_ins, add_ins] at *; exact St.has_add (by assumption)) | (simp only [*, ins_has, has_full, St.has_add]; done) | (simp [-List.map_take, -List.map_drop, or_imp, forall_and, Seg.a, Vec.a, Leg.a, num, okEl, cells_agg, cells_int, cells_sl, cells_bool, AV.isCell]; done) | (simp; omega))) (fun _ _ => ?_)) | (with_reducible refine appD_V (by refine ⟨?_, ?_, ?_, ?_, ?_⟩ <;> (first | assumption | omega | exact St.has_add (by assumption) | (simp only [ins_has]; exact St.has_add (by assumption)) | (simp only [ins_has, fresh_ins, kill_ins, add_ins] at *; exact St.has_add (by assumption)) | (simp only [*, ins_has, has_full, St.has_add]; done) | (simp [-List.map_take, -List.map_drop, or_imp, forall_and, Seg.a, Vec.a, Leg.a, num, okEl, cells_agg, cells_int, cells_sl, cells_bool, AV.isCell]; done) | (simp; omega))) (fun _ _ => ?_))) | (with_reducible refine freshQ_i (fun _ _ => ?_)) | (with_reducible refine nilQ_i (fun _ _ => ?_)) | (with_reducible first | refine callH_use (v_16 _) ?_ | refine pureQ_use (v_16 _) ?_) | (with_reducible first | refine callH_use (a1) ?_ | refine pureQ_use (a1) ?_) | (with_reducible first | refine callH_use (a2) ?_ | refine pureQ_use (a2) ?_) | (with_reducible first | refine callH_use (a3) ?_ | refine pureQ_use (a3) ?_) | (with_reducible first | refine callH_use (a4) ?_ | refine pureQ_use (a4) ?_) | (with_reducible first | refine callH_use (a5) ?_ | refine pureQ_use (a5) ?_) | (with_reducible first | refine callH_use (a6) ?_ | refine pureQ_use (a6) ?_) | (with_reducible first | refine callH_use (a7) ?_ | refine pureQ_use (a7) ?_) | (with_reducible first | refine callH_use (a8) ?_ | refine pureQ_use (a8) ?_) | (with_reducible first | refine callH_use (s1) ?_ | refine pureQ_use (s1) ?_) | (with_reducible first | refine callH_use (s2) ?_ | refine pureQ_use (s2) ?_)))
end Go.Proofs.Ytddbnncimggogaa.V
end
section
set_option linter.unusedSimpArgs false
set_option linter.unusedVariables false
/- What is handed in, as V's values: structs and arrays of any parts. -/
namespace Go.Proofs.Ytddbnncimggogaa.V
open Go Go.ChangeShapes Go.WideShapes Go.ChangeAt Go.RowKit Go.Deep
set_option maxRecDepth 100000
/-- Cells of a type, wherever they lie. -/
def OpC (t : TypeId) (sz : Nat) (R : List AV → Prop) : Prop :=
  ∀ {H : Type} {enc : TypeId × Value → H} {w : World} {base : Nat} {spare : Nat → Bool} {held : Bool} {fuel : Nat} {cs : List Value} {x : DataW H × List MemPlace}, DataW.trod enc Try.prog w base spare held fuel t cs = some x →
    ∃ l : List AV, RepL (imW w) l cs ∧ l.length = sz ∧ l.all AV.isCell = true ∧ R l
theorem OpC.mono {t : TypeId} {sz : Nat} {R R' : List AV → Prop} (h : OpC t sz R) (hr : ∀ l, R l → R' l) : OpC t sz R' := fun hx => by
  obtain ⟨l, h1, h2, h3, h4⟩ := h hx
  exact ⟨l, h1, h2, h3, hr l h4⟩
theorem opn_of {α : Type} {t : TypeId} {sz : Nat} {f : α → AV} {wf : α → Prop} (h : OpC t sz (fun l => ∃ v, l = (f v).cells ∧ wf v)) : Opn t sz f wf := fun hx => by
  obtain ⟨l, h1, h2, h3, v, rfl, h4⟩ := h hx
  exact ⟨v, h1, by simp [okEl, h2, h3], h4⟩
theorem opc_of {α : Type} {t : TypeId} {sz : Nat} {f : α → AV} {wf : α → Prop} (h : Opn t sz f wf) : OpC t sz (fun l => ∃ v, l = (f v).cells ∧ wf v) := fun hx => by
  obtain ⟨v, h1, h2, h3⟩ := h hx
  simp only [okEl, Bool.and_eq_true, beq_iff_eq] at h2
  exact ⟨_, h1, h2.1, h2.2, v, rfl, h3⟩
theorem opc_int {t : TypeId} {k : IntKind} (ht : Try.prog.underlying t = some (.int k)) : OpC t 1 (fun l => ∃ n, l = [.int k n] ∧ (Lit.int k n).wf = true) := by
  intro H enc w base spare held fuel cs x h
  obtain ⟨a, rfl, _, wa⟩ := DataW.trod_int ht h
  exact ⟨[.int k a], by simp [RepL, Rep], rfl, rfl, a, rfl, wa⟩
theorem opc_sl {α : Type} [Inhabited α] {t e : TypeId} {sz : Nat} {f : α → AV} {wf : α → Prop} (ht : Try.prog.underlying t = some (.slice e)) (hsz : Try.prog.cellsOf e = sz) (hp : 0 < sz) (hO : Opn e sz f wf) :
    OpC t 1 (fun l => ∃ xs : List α, l = [.sl (xs.map f) .no] ∧ (∀ x ∈ xs, wf x) ∧ (xs.length : Int) ≤ 9223372036854775807) :=
  OpC.mono (opc_of (opn_sl ht hsz hp hO)) (by rintro l ⟨xs, rfl, h⟩; exact ⟨xs, rfl, h⟩)
def tot : List (Nat × (List AV → Prop)) → Nat
  | [] => 0
  | (n, _) :: r => n + tot r
def AllC : List (Nat × (List AV → Prop)) → List AV → Prop
  | [], l => l = []
  | (_, R) :: r, l => ∃ a b, l = a ++ b ∧ R a ∧ AllC r b
def Parts (w : World) (cs : List Value) : Nat → List (Nat × (List AV → Prop)) → Prop
  | _, [] => True
  | o, (n, R) :: r => (∃ a : List AV, RepL (imW w) a ((cs.drop o).take n) ∧ a.length = n ∧ a.all AV.isCell = true ∧ R a) ∧ Parts w cs (o + n) r
theorem glue {w : World} {cs : List Value} : ∀ {ps : List (Nat × (List AV → Prop))} {o : Nat}, Parts w cs o ps → ∃ l : List AV, RepL (imW w) l ((cs.drop o).take (tot ps)) ∧ l.length = tot ps ∧ l.all AV.isCell = true ∧ AllC ps l
  | [], o, _ => ⟨[], by simp [tot, RepL], rfl, rfl, rfl⟩
  | (n, R) :: r, o, ⟨⟨a, h1, h2, h3, h4⟩, h⟩ => by
    obtain ⟨b, k1, k2, k3, k4⟩ := glue h
    refine ⟨a ++ b, ?_, by simp [h2, k2, tot], by simp only [List.all_append, h3, k3, Bool.and_self], a, b, rfl, h4, k4⟩
    simp only [tot]
    rw [List.take_add, List.drop_drop]
    exact h1.append k1
/-- The fields of a struct, one behind the other. -/
def SeqC : List Field → Nat → List (Nat × (List AV → Prop)) → Prop
  | [], _, [] => True
  | f :: fs, o, (n, R) :: r => (f.offset = o ∧ Try.prog.cellsOf f.type = n ∧ OpC f.type n R) ∧ SeqC fs (o + n) r
  | _, _, _ => False
theorem opc_struct {t : TypeId} {fs : Array Field} {ps : List (Nat × (List AV → Prop))} (ht : Try.prog.underlying t = some (.struct fs)) (hsz : Try.prog.cellsOf t = tot ps) (hs : SeqC fs.toList 0 ps) : OpC t (tot ps) (AllC ps) := by
  intro H enc w base spare held fuel cs x h
  obtain ⟨xs, n, _, rfl, hl, hlen, hf⟩ := DataW.trod_struct ht h
  have key : ∀ (fl : List Field) (o : Nat) (ps : List (Nat × (List AV → Prop))), (∀ f ∈ fl, ∃ y, DataW.trod enc Try.prog w base spare held n f.type ((cs.drop f.offset).take (Try.prog.cellsOf f.type)) = some y) → SeqC fl o ps → Parts w cs o ps := by
    intro fl
    induction fl with
    | nil =>
      intro o ps _ hs
      cases ps with
      | nil => trivial
      | cons p r => exact hs.elim
    | cons f fl ih =>
      intro o ps hy hs
      match ps, hs with
      | (m, R) :: r, ⟨⟨e1, e2, h3⟩, h4⟩ =>
        obtain ⟨y, hy1⟩ := hy f (by simp)
        rw [e1, e2] at hy1
        exact ⟨h3 hy1, ih _ _ (fun g hg => hy g (by simp [hg])) h4⟩
  have hp := key fs.toList 0 ps (fun f hfm => by
    obtain ⟨i, hi, rfl⟩ := List.getElem_of_mem hfm
    have hi2 : i < fs.size := by simpa using hi
    have := hf i fs[i] (by simp [hi2])
    rw [List.getElem?_eq_getElem (by omega)] at this
    exact ⟨_, by simpa using this⟩) hs
  obtain ⟨l, k1, k2, k3, k4⟩ := glue hp
  refine ⟨l, ?_, k2, k3, k4⟩
  rw [List.drop_zero, List.take_of_length_le (by omega)] at k1
  exact k1
theorem tot_rep (n m : Nat) (R : List AV → Prop) : tot (List.replicate m (n, R)) = m * n := by
  induction m with
  | zero => simp [tot]
  | succ m ih => rw [List.replicate_succ, tot, ih, Nat.add_mul]; omega
theorem opc_array {t e : TypeId} {m n : Nat} {R : List AV → Prop} (ht : Try.prog.underlying t = some (.array m e)) (hsz : Try.prog.cellsOf t = m * n) (he : Try.prog.cellsOf e = n) (hR : OpC e n R) : OpC t (m * n) (AllC (List.replicate m (n, R))) := by
  intro H enc w base spare held fuel cs x h
  obtain ⟨xs, q, _, rfl, hl, hlen, hf⟩ := DataW.trod_array ht h
  have key : ∀ (k i : Nat), i + k = m → Parts w cs (i * n) (List.replicate k (n, R)) := by
    intro k
    induction k with
    | zero => intro _ _; trivial
    | succ k ih =>
      intro i hi
      rw [List.replicate_succ]
      have h1 := hf i (by omega)
      rw [List.getElem?_eq_getElem (by omega), he] at h1
      refine ⟨hR h1, ?_⟩
      have := ih (i + 1) (by omega)
      rwa [Nat.add_mul, Nat.one_mul] at this
  have hp := key m 0 (by omega)
  rw [Nat.zero_mul] at hp
  obtain ⟨l, k1, k2, k3, k4⟩ := glue hp
  rw [tot_rep] at k1 k2
  refine ⟨l, ?_, k2, k3, k4⟩
  rw [List.drop_zero, List.take_of_length_le (by omega)] at k1
  exact k1
/-- A struct that is handed in. -/
theorem open_agg {α : Type} {t : TypeId} {sz : Nat} {g : α → List AV} {wf : α → Prop} {fs : Array Field} (ht : Try.prog.underlying t = some (.struct fs)) (hO : Opn t sz (fun x => .agg (g x)) wf)
    {H : Type} {enc : TypeId × Value → H} {w : World} {base base' : Nat} {spare : Nat → Bool} {held : Bool} {v : Value} {d : DataW H} {ps : List MemPlace} {r : Reach} (hval : Value.okWide Try.prog w r base' t v) (h : DataW.Trod enc Try.prog w base spare held t v d ps) :
    ∃ x : α, Rep (imW w) (.agg (g x)) v ∧ wf x := by
  simp only [Value.okWide, ht] at hval
  obtain ⟨cs, rfl, hsz, _⟩ := hval
  obtain ⟨fuel, hf⟩ := h
  obtain ⟨x, h1, _, h3⟩ := hO hf
  exact ⟨x, by simp only [Rep]; exact ⟨cs, rfl, h1⟩, h3⟩
/-! The structs of times and resources. -/
def wfLeg (x : Leg) : Prop := I64 x.d ∧ wfVec x.v
theorem opc_i64 : OpC 2 1 (fun l => ∃ n, l = [.int .i64 n] ∧ I64 n) := OpC.mono (opc_int (by kernel_rfl)) (by rintro l ⟨n, rfl, h⟩; exact ⟨n, rfl, i64_of h⟩)
theorem opn_win : Opn 60 2 Vec.a wfVec :=
  opn_of (OpC.mono (opc_struct (ps := [(1, _), (1, _)]) Try.underlying60 (by kernel_rfl) ⟨⟨rfl, by kernel_rfl, opc_i64⟩, ⟨rfl, by kernel_rfl, opc_i64⟩, trivial⟩) (by
    rintro l ⟨_, _, rfl, ⟨a, rfl, ha⟩, _, _, rfl, ⟨b, rfl, hb⟩, rfl⟩
    exact ⟨⟨a, b⟩, rfl, ha, hb⟩))
theorem opn_leg : Opn 70 3 Leg.a wfLeg :=
  opn_of (OpC.mono (opc_struct (ps := [(1, _), (2, _)]) Try.underlying70 (by kernel_rfl) ⟨⟨rfl, by kernel_rfl, opc_i64⟩, ⟨rfl, by kernel_rfl, opc_of opn_vec⟩, trivial⟩) (by
    rintro l ⟨_, _, rfl, ⟨a, rfl, ha⟩, _, _, rfl, ⟨b, rfl, hb⟩, rfl⟩
    exact ⟨⟨a, b⟩, rfl, ha, hb⟩))
end Go.Proofs.Ytddbnncimggogaa.V
end
section
set_option linter.unusedSimpArgs false
set_option linter.unusedVariables false
/- SlotCut, walked. -/
namespace Go.Proofs.Ytddbnncimggogaa.V
open Go Go.Proofs
set_option maxRecDepth 100000
set_option maxHeartbeats 4000000
/-- A window, legs, two numbers of a byte. -/
structure RowX where
  w : Vec
  l : List Leg
  b0 : Int
  b1 : Int
  deriving Inhabited
def RowX.a (x : RowX) : AV := .agg [.int .i64 x.w.m, .int .i64 x.w.c, .sl (x.l.map Leg.a) .no, .int .u8 x.b0, .int .u8 x.b1]
def U8 (n : Int) : Prop := 0 ≤ n ∧ n ≤ 255
def wfRowX (x : RowX) : Prop := wfVec x.w ∧ ((∀ y ∈ x.l, wfLeg y) ∧ (x.l.length : Int) ≤ 9223372036854775807) ∧ U8 x.b0 ∧ U8 x.b1
theorem iaa0 (b o : Nat) : viaa 2 1 (.ptr b o) (.int .i64 0) = some (.ptr b o) := by simp [viaa, vfad]
theorem iaa1 (b o : Nat) : viaa 2 1 (.ptr b o) (.int .i64 1) = some (.ptr b (o + 1)) := by simp [viaa, vfad]
end Go.Proofs.Ytddbnncimggogaa.V
end
section
set_option linter.unusedSimpArgs false
set_option linter.unusedVariables false
/- SlotMore, walked. -/
namespace Go.Proofs.Ytddbnncimggogaa.V
open Go Go.Proofs
set_option maxRecDepth 100000
set_option maxHeartbeats 4000000
theorem any_take {α : Type} (p : α → Bool) (l : List α) (k : Nat) (h : k < l.length) : (l.take (k + 1)).any p = ((l.take k).any p || p l[k]) := by
  rw [List.take_add_one, List.getElem?_eq_getElem h, List.any_append]; simp
theorem within_v (A B : List Vec) (hA : A.length ≤ 1000000000) (hB : B.length ≤ 1000000000) (t t' : Tok) : VPure Try.prog 46 [.sl (A.map Vec.a) t, .sl (B.map Vec.a) t'] (.bool (withinB A B)) := by
  refine VPure.of v_liverylaw16_within_ok (Nat.le_of_ble_eq_true rfl) (fun Z st => ?_)
  simp only [v_liverylaw16_within, ↓vD, vU, VE.ev, VE.evs, retvs, tupOf, grab, vfill, vbsl, eqCells, eqCell, veqs, veqs1, vmnx, AV.isCell, AV.isUndef, Nat.reduceEqDiff, Nat.reduceAdd, Nat.reduceSub, Nat.reduceLeDiff, Nat.reduceLT, reduceIte, reduceCtorEq, Nat.reduceBEq, k_app, k_slc1]
  (repeat' (first | (simp (config := { maxDischargeDepth := 16 }) only [*, vX, Int.reduceLE, Int.reduceLT, Int.reduceGE, Int.reduceGT, Int.reduceBEq, Int.reduceBNe, Int.reduceAdd, Int.reduceSub, Int.reduceMul, Int.reduceNeg, ↓vD, vU, VE.ev, VE.evs, retvs, tupOf, grab, vfill, vbsl, eqCells, eqCell, veqs, veqs1, vmnx, AV.isCell, AV.isUndef, Nat.reduceEqDiff, Nat.reduceAdd, Nat.reduceSub, Nat.reduceLeDiff, Nat.reduceLT, reduceIte, reduceCtorEq, Nat.reduceBEq]) | (simp (disch := first | assumption | omega | exact Seg.len _ | exact Vec.len _ | exact Leg.len _ | exact num_len _ | exact rowA_len _ | exact rowA_len | exact rowT_len _ | exact rowT_len | exact Seg.len | exact Vec.len | exact Leg.len | exact num_len | exact AV.slen _ _ | rfl) only [vP]) | (with_reducible (first | refine gsnd (fun _ => ?_) (fun _ => ?_) | refine csnd (fun _ => ?_) (fun _ => ?_) | refine gsd (fun _ => ?_) (fun _ => ?_) | refine csd (fun _ => ?_) (fun _ => ?_) | refine gsn (fun _ => ?_) (fun _ => ?_) | refine csn (fun _ => ?_) (fun _ => ?_))) | (with_reducible refine gs (fun _ => ?_) (fun _ => ?_)) | (with_reducible refine cs_ (fun _ => ?_) (fun _ => ?_)) | (with_reducible refine objQ_i (fun _ _ => ?_); (repeat (with_reducible refine imp_i (fun _ => ?_)))) | ((try with_reducible refine appK_a ?_); first | (with_reducible refine appD_F (by refine ⟨?_, ?_, ?_, ?_⟩ <;> (first | assumption | omega | exact St.has_add (by assumption) | (simp only [ins_has]; exact St.has_add (by assumption)) | (simp only [ins_has, fresh_ins, kill_ins, add_ins] at *; exact St.has_add (by assumption)) | (simp only [*, ins_has, has_full, St.has_add]; done) | (simp [-List.map_take, -List.map_drop, or_imp, forall_and, Seg.a, Vec.a, Leg.a, num, okEl, cells_agg, cells_int, cells_sl, cells_bool, AV.isCell]; done) | (simp; omega))) (fun _ _ => ?_)) | (with_reducible refine appD_V (by refine ⟨?_, ?_, ?_, ?_, ?_⟩ <;> (first | assumption | omega | exact St.has_add (by assumption) | (simp only [ins_has]; exact St.has_add (by assumption)) | (simp only [ins_has, fresh_ins, kill_ins, add_ins] at *; exact St.has_add (by assumption)) | (simp only [*, ins_has, has_full, St.has_add]; done) | (simp [-List.map_take, -List.map_drop, or_imp, forall_and, Seg.a, Vec.a, Leg.a, num, okEl, cells_agg, cells_int, cells_sl, cells_bool, AV.isCell]; done) | (simp; omega))) (fun _ _ => ?_))) | (with_reducible refine freshQ_i (fun _ _ => ?_)) | (with_reducible refine nilQ_i (fun _ _ => ?_))))
  refine loopp_of (len := A.length) (by simp only [asgL, dsts, List.cons_append, List.nil_append, List.append_nil]; rfl) (by simp only [noR, Bool.and_true, Bool.and_false]; rfl) (by omega) (fun i fr => fr.t 5 = .int .i64 i ∧ Hid (withinB (A.take i) B = true)) ?_ ?_ ?_
  · exact ⟨by simp [↓vD, vU, VE.ev, VE.evs, retvs, tupOf, grab, vfill, vbsl, eqCells, eqCell, veqs, veqs1, vmnx, AV.isCell, AV.isUndef, Nat.reduceEqDiff, Nat.reduceAdd, Nat.reduceSub, Nat.reduceLeDiff, Nat.reduceLT, reduceIte, reduceCtorEq, Nat.reduceBEq, k_app, k_slc1], ⟨by simp [withinB]⟩⟩
  · rintro i fr hi hwi hfr hd ⟨h5, HI⟩
    obtain ⟨a, ha⟩ : ∃ a, A[i] = a := ⟨_, rfl⟩
    (repeat' (first | (simp (config := { maxDischargeDepth := 16 }) only [*, vX, Int.reduceLE, Int.reduceLT, Int.reduceGE, Int.reduceGT, Int.reduceBEq, Int.reduceBNe, Int.reduceAdd, Int.reduceSub, Int.reduceMul, Int.reduceNeg, ↓vD, vU, VE.ev, VE.evs, retvs, tupOf, grab, vfill, vbsl, eqCells, eqCell, veqs, veqs1, vmnx, AV.isCell, AV.isUndef, Nat.reduceEqDiff, Nat.reduceAdd, Nat.reduceSub, Nat.reduceLeDiff, Nat.reduceLT, reduceIte, reduceCtorEq, Nat.reduceBEq]) | (simp (disch := first | assumption | omega | exact Seg.len _ | exact Vec.len _ | exact Leg.len _ | exact num_len _ | exact rowA_len _ | exact rowA_len | exact rowT_len _ | exact rowT_len | exact Seg.len | exact Vec.len | exact Leg.len | exact num_len | exact AV.slen _ _ | rfl) only [vP]) | (with_reducible (first | refine gsnd (fun _ => ?_) (fun _ => ?_) | refine csnd (fun _ => ?_) (fun _ => ?_) | refine gsd (fun _ => ?_) (fun _ => ?_) | refine csd (fun _ => ?_) (fun _ => ?_) | refine gsn (fun _ => ?_) (fun _ => ?_) | refine csn (fun _ => ?_) (fun _ => ?_))) | (with_reducible refine gs (fun _ => ?_) (fun _ => ?_)) | (with_reducible refine cs_ (fun _ => ?_) (fun _ => ?_)) | (with_reducible refine objQ_i (fun _ _ => ?_); (repeat (with_reducible refine imp_i (fun _ => ?_)))) | ((try with_reducible refine appK_a ?_); first | (with_reducible refine appD_F (by refine ⟨?_, ?_, ?_, ?_⟩ <;> (first | assumption | omega | exact St.has_add (by assumption) | (simp only [ins_has]; exact St.has_add (by assumption)) | (simp only [ins_has, fresh_ins, kill_ins, add_ins] at *; exact St.has_add (by assumption)) | (simp only [*, ins_has, has_full, St.has_add]; done) | (simp [-List.map_take, -List.map_drop, or_imp, forall_and, Seg.a, Vec.a, Leg.a, num, okEl, cells_agg, cells_int, cells_sl, cells_bool, AV.isCell]; done) | (simp; omega))) (fun _ _ => ?_)) | (with_reducible refine appD_V (by refine ⟨?_, ?_, ?_, ?_, ?_⟩ <;> (first | assumption | omega | exact St.has_add (by assumption) | (simp only [ins_has]; exact St.has_add (by assumption)) | (simp only [ins_has, fresh_ins, kill_ins, add_ins] at *; exact St.has_add (by assumption)) | (simp only [*, ins_has, has_full, St.has_add]; done) | (simp [-List.map_take, -List.map_drop, or_imp, forall_and, Seg.a, Vec.a, Leg.a, num, okEl, cells_agg, cells_int, cells_sl, cells_bool, AV.isCell]; done) | (simp; omega))) (fun _ _ => ?_))) | (with_reducible refine freshQ_i (fun _ _ => ?_)) | (with_reducible refine nilQ_i (fun _ _ => ?_))))
    refine loopp_of (len := B.length) (by simp only [asgL, dsts, List.cons_append, List.nil_append, List.append_nil]; rfl) (by simp only [noR, Bool.and_true, Bool.and_false]; rfl) (by omega) (fun j fr2 => ∃ b : Bool, fr2.t 7 = .int .i64 j ∧ fr2.t 6 = .bool b ∧ Hid (b = (B.take j).any fun b => decide (b.m ≤ a.m) && decide (a.c ≤ b.c))) ?_ ?_ ?_
    · exact ⟨false, by simp [↓vD, vU, VE.ev, VE.evs, retvs, tupOf, grab, vfill, vbsl, eqCells, eqCell, veqs, veqs1, vmnx, AV.isCell, AV.isUndef, Nat.reduceEqDiff, Nat.reduceAdd, Nat.reduceSub, Nat.reduceLeDiff, Nat.reduceLT, reduceIte, reduceCtorEq, Nat.reduceBEq, k_app, k_slc1], by simp [↓vD, vU, VE.ev, VE.evs, retvs, tupOf, grab, vfill, vbsl, eqCells, eqCell, veqs, veqs1, vmnx, AV.isCell, AV.isUndef, Nat.reduceEqDiff, Nat.reduceAdd, Nat.reduceSub, Nat.reduceLeDiff, Nat.reduceLT, reduceIte, reduceCtorEq, Nat.reduceBEq, k_app, k_slc1], ⟨by simp⟩⟩
    · rintro j fr2 hj hwj hfr2 hd2 ⟨b, h7, h6, HB⟩
      obtain ⟨y, hy⟩ : ∃ y, B[j] = y := ⟨_, rfl⟩
      have hnx := any_take (fun b : Vec => decide (b.m ≤ a.m) && decide (a.c ≤ b.c)) B j hj
      rw [hy, ← HB.out] at hnx
      have HN := Hid.mk hnx
      clear hnx HB
      cases b with
      | true =>
        (repeat' (first | (simp (config := { maxDischargeDepth := 16 }) only [*, Vec.a, vX, Int.reduceLE, Int.reduceLT, Int.reduceGE, Int.reduceGT, Int.reduceBEq, Int.reduceBNe, Int.reduceAdd, Int.reduceSub, Int.reduceMul, Int.reduceNeg, ↓vD, vU, VE.ev, VE.evs, retvs, tupOf, grab, vfill, vbsl, eqCells, eqCell, veqs, veqs1, vmnx, AV.isCell, AV.isUndef, Nat.reduceEqDiff, Nat.reduceAdd, Nat.reduceSub, Nat.reduceLeDiff, Nat.reduceLT, reduceIte, reduceCtorEq, Nat.reduceBEq]) | (simp (disch := first | assumption | omega | exact Seg.len _ | exact Vec.len _ | exact Leg.len _ | exact num_len _ | exact rowA_len _ | exact rowA_len | exact rowT_len _ | exact rowT_len | exact Seg.len | exact Vec.len | exact Leg.len | exact num_len | exact AV.slen _ _ | rfl) only [Vec.a, vP]) | (with_reducible (first | refine gsnd (fun _ => ?_) (fun _ => ?_) | refine csnd (fun _ => ?_) (fun _ => ?_) | refine gsd (fun _ => ?_) (fun _ => ?_) | refine csd (fun _ => ?_) (fun _ => ?_) | refine gsn (fun _ => ?_) (fun _ => ?_) | refine csn (fun _ => ?_) (fun _ => ?_))) | (with_reducible refine gs (fun _ => ?_) (fun _ => ?_)) | (with_reducible refine cs_ (fun _ => ?_) (fun _ => ?_)) | (with_reducible refine objQ_i (fun _ _ => ?_); (repeat (with_reducible refine imp_i (fun _ => ?_)))) | ((try with_reducible refine appK_a ?_); first | (with_reducible refine appD_F (by refine ⟨?_, ?_, ?_, ?_⟩ <;> (first | assumption | omega | exact St.has_add (by assumption) | (simp only [ins_has]; exact St.has_add (by assumption)) | (simp only [ins_has, fresh_ins, kill_ins, add_ins] at *; exact St.has_add (by assumption)) | (simp only [*, ins_has, has_full, St.has_add]; done) | (simp [-List.map_take, -List.map_drop, or_imp, forall_and, Seg.a, Vec.a, Leg.a, num, okEl, cells_agg, cells_int, cells_sl, cells_bool, AV.isCell]; done) | (simp; omega))) (fun _ _ => ?_)) | (with_reducible refine appD_V (by refine ⟨?_, ?_, ?_, ?_, ?_⟩ <;> (first | assumption | omega | exact St.has_add (by assumption) | (simp only [ins_has]; exact St.has_add (by assumption)) | (simp only [ins_has, fresh_ins, kill_ins, add_ins] at *; exact St.has_add (by assumption)) | (simp only [*, ins_has, has_full, St.has_add]; done) | (simp [-List.map_take, -List.map_drop, or_imp, forall_and, Seg.a, Vec.a, Leg.a, num, okEl, cells_agg, cells_int, cells_sl, cells_bool, AV.isCell]; done) | (simp; omega))) (fun _ _ => ?_))) | (with_reducible refine freshQ_i (fun _ _ => ?_)) | (with_reducible refine nilQ_i (fun _ _ => ?_))))
        all_goals (refine ⟨_, rfl, ⟨?_⟩⟩; rw [HN.out]; simp)
      | false =>
        (repeat' (first | (simp (config := { maxDischargeDepth := 16 }) only [*, Vec.a, vX, Int.reduceLE, Int.reduceLT, Int.reduceGE, Int.reduceGT, Int.reduceBEq, Int.reduceBNe, Int.reduceAdd, Int.reduceSub, Int.reduceMul, Int.reduceNeg, ↓vD, vU, VE.ev, VE.evs, retvs, tupOf, grab, vfill, vbsl, eqCells, eqCell, veqs, veqs1, vmnx, AV.isCell, AV.isUndef, Nat.reduceEqDiff, Nat.reduceAdd, Nat.reduceSub, Nat.reduceLeDiff, Nat.reduceLT, reduceIte, reduceCtorEq, Nat.reduceBEq]) | (simp (disch := first | assumption | omega | exact Seg.len _ | exact Vec.len _ | exact Leg.len _ | exact num_len _ | exact rowA_len _ | exact rowA_len | exact rowT_len _ | exact rowT_len | exact Seg.len | exact Vec.len | exact Leg.len | exact num_len | exact AV.slen _ _ | rfl) only [Vec.a, vP]) | (with_reducible (first | refine gsnd (fun _ => ?_) (fun _ => ?_) | refine csnd (fun _ => ?_) (fun _ => ?_) | refine gsd (fun _ => ?_) (fun _ => ?_) | refine csd (fun _ => ?_) (fun _ => ?_) | refine gsn (fun _ => ?_) (fun _ => ?_) | refine csn (fun _ => ?_) (fun _ => ?_))) | (with_reducible refine gs (fun _ => ?_) (fun _ => ?_)) | (with_reducible refine cs_ (fun _ => ?_) (fun _ => ?_)) | (with_reducible refine objQ_i (fun _ _ => ?_); (repeat (with_reducible refine imp_i (fun _ => ?_)))) | ((try with_reducible refine appK_a ?_); first | (with_reducible refine appD_F (by refine ⟨?_, ?_, ?_, ?_⟩ <;> (first | assumption | omega | exact St.has_add (by assumption) | (simp only [ins_has]; exact St.has_add (by assumption)) | (simp only [ins_has, fresh_ins, kill_ins, add_ins] at *; exact St.has_add (by assumption)) | (simp only [*, ins_has, has_full, St.has_add]; done) | (simp [-List.map_take, -List.map_drop, or_imp, forall_and, Seg.a, Vec.a, Leg.a, num, okEl, cells_agg, cells_int, cells_sl, cells_bool, AV.isCell]; done) | (simp; omega))) (fun _ _ => ?_)) | (with_reducible refine appD_V (by refine ⟨?_, ?_, ?_, ?_, ?_⟩ <;> (first | assumption | omega | exact St.has_add (by assumption) | (simp only [ins_has]; exact St.has_add (by assumption)) | (simp only [ins_has, fresh_ins, kill_ins, add_ins] at *; exact St.has_add (by assumption)) | (simp only [*, ins_has, has_full, St.has_add]; done) | (simp [-List.map_take, -List.map_drop, or_imp, forall_and, Seg.a, Vec.a, Leg.a, num, okEl, cells_agg, cells_int, cells_sl, cells_bool, AV.isCell]; done) | (simp; omega))) (fun _ _ => ?_))) | (with_reducible refine freshQ_i (fun _ _ => ?_)) | (with_reducible refine nilQ_i (fun _ _ => ?_))))
        all_goals (refine ⟨_, rfl, ⟨?_⟩⟩; rw [HN.out]; simp [*])
    · rintro fr2 hfr2 hd2 ⟨b, h7, h6, HB⟩
      rw [List.take_length] at HB
      have hw : withinB (A.take (i + 1)) B = b := by
        unfold withinB
        rw [List.take_add_one, List.getElem?_eq_getElem hi, List.all_append]
        have := HI.out
        unfold withinB at this
        rw [this, ha, HB.out]; simp
      cases b with
      | true =>
        have HW := Hid.mk hw
        clear hw HB HI
        (repeat' (first | (simp (config := { maxDischargeDepth := 16 }) only [*, vX, Int.reduceLE, Int.reduceLT, Int.reduceGE, Int.reduceGT, Int.reduceBEq, Int.reduceBNe, Int.reduceAdd, Int.reduceSub, Int.reduceMul, Int.reduceNeg, ↓vD, vU, VE.ev, VE.evs, retvs, tupOf, grab, vfill, vbsl, eqCells, eqCell, veqs, veqs1, vmnx, AV.isCell, AV.isUndef, Nat.reduceEqDiff, Nat.reduceAdd, Nat.reduceSub, Nat.reduceLeDiff, Nat.reduceLT, reduceIte, reduceCtorEq, Nat.reduceBEq]) | (simp (disch := first | assumption | omega | exact Seg.len _ | exact Vec.len _ | exact Leg.len _ | exact num_len _ | exact rowA_len _ | exact rowA_len | exact rowT_len _ | exact rowT_len | exact Seg.len | exact Vec.len | exact Leg.len | exact num_len | exact AV.slen _ _ | rfl) only [vP]) | (with_reducible (first | refine gsnd (fun _ => ?_) (fun _ => ?_) | refine csnd (fun _ => ?_) (fun _ => ?_) | refine gsd (fun _ => ?_) (fun _ => ?_) | refine csd (fun _ => ?_) (fun _ => ?_) | refine gsn (fun _ => ?_) (fun _ => ?_) | refine csn (fun _ => ?_) (fun _ => ?_))) | (with_reducible refine gs (fun _ => ?_) (fun _ => ?_)) | (with_reducible refine cs_ (fun _ => ?_) (fun _ => ?_)) | (with_reducible refine objQ_i (fun _ _ => ?_); (repeat (with_reducible refine imp_i (fun _ => ?_)))) | ((try with_reducible refine appK_a ?_); first | (with_reducible refine appD_F (by refine ⟨?_, ?_, ?_, ?_⟩ <;> (first | assumption | omega | exact St.has_add (by assumption) | (simp only [ins_has]; exact St.has_add (by assumption)) | (simp only [ins_has, fresh_ins, kill_ins, add_ins] at *; exact St.has_add (by assumption)) | (simp only [*, ins_has, has_full, St.has_add]; done) | (simp [-List.map_take, -List.map_drop, or_imp, forall_and, Seg.a, Vec.a, Leg.a, num, okEl, cells_agg, cells_int, cells_sl, cells_bool, AV.isCell]; done) | (simp; omega))) (fun _ _ => ?_)) | (with_reducible refine appD_V (by refine ⟨?_, ?_, ?_, ?_, ?_⟩ <;> (first | assumption | omega | exact St.has_add (by assumption) | (simp only [ins_has]; exact St.has_add (by assumption)) | (simp only [ins_has, fresh_ins, kill_ins, add_ins] at *; exact St.has_add (by assumption)) | (simp only [*, ins_has, has_full, St.has_add]; done) | (simp [-List.map_take, -List.map_drop, or_imp, forall_and, Seg.a, Vec.a, Leg.a, num, okEl, cells_agg, cells_int, cells_sl, cells_bool, AV.isCell]; done) | (simp; omega))) (fun _ _ => ?_))) | (with_reducible refine freshQ_i (fun _ _ => ?_)) | (with_reducible refine nilQ_i (fun _ _ => ?_))))
        all_goals exact HW
      | false =>
        have hf : withinB A B = false := by
          unfold withinB at hw ⊢
          cases h : A.all fun a => B.any fun b => decide (b.m ≤ a.m) && decide (a.c ≤ b.c) with
          | false => rfl
          | true =>
            rw [List.all_eq_true] at h
            have : ((A.take (i + 1)).all fun a => B.any fun b => decide (b.m ≤ a.m) && decide (a.c ≤ b.c)) = true := List.all_eq_true.2 fun x hx => h x (List.mem_of_mem_take hx)
            rw [this] at hw; cases hw
        rw [hf]
        clear hw HB HI hf
        (repeat' (first | (simp (config := { maxDischargeDepth := 16 }) only [*, vX, Int.reduceLE, Int.reduceLT, Int.reduceGE, Int.reduceGT, Int.reduceBEq, Int.reduceBNe, Int.reduceAdd, Int.reduceSub, Int.reduceMul, Int.reduceNeg, ↓vD, vU, VE.ev, VE.evs, retvs, tupOf, grab, vfill, vbsl, eqCells, eqCell, veqs, veqs1, vmnx, AV.isCell, AV.isUndef, Nat.reduceEqDiff, Nat.reduceAdd, Nat.reduceSub, Nat.reduceLeDiff, Nat.reduceLT, reduceIte, reduceCtorEq, Nat.reduceBEq]) | (simp (disch := first | assumption | omega | exact Seg.len _ | exact Vec.len _ | exact Leg.len _ | exact num_len _ | exact rowA_len _ | exact rowA_len | exact rowT_len _ | exact rowT_len | exact Seg.len | exact Vec.len | exact Leg.len | exact num_len | exact AV.slen _ _ | rfl) only [vP]) | (with_reducible (first | refine gsnd (fun _ => ?_) (fun _ => ?_) | refine csnd (fun _ => ?_) (fun _ => ?_) | refine gsd (fun _ => ?_) (fun _ => ?_) | refine csd (fun _ => ?_) (fun _ => ?_) | refine gsn (fun _ => ?_) (fun _ => ?_) | refine csn (fun _ => ?_) (fun _ => ?_))) | (with_reducible refine gs (fun _ => ?_) (fun _ => ?_)) | (with_reducible refine cs_ (fun _ => ?_) (fun _ => ?_)) | (with_reducible refine objQ_i (fun _ _ => ?_); (repeat (with_reducible refine imp_i (fun _ => ?_)))) | ((try with_reducible refine appK_a ?_); first | (with_reducible refine appD_F (by refine ⟨?_, ?_, ?_, ?_⟩ <;> (first | assumption | omega | exact St.has_add (by assumption) | (simp only [ins_has]; exact St.has_add (by assumption)) | (simp only [ins_has, fresh_ins, kill_ins, add_ins] at *; exact St.has_add (by assumption)) | (simp only [*, ins_has, has_full, St.has_add]; done) | (simp [-List.map_take, -List.map_drop, or_imp, forall_and, Seg.a, Vec.a, Leg.a, num, okEl, cells_agg, cells_int, cells_sl, cells_bool, AV.isCell]; done) | (simp; omega))) (fun _ _ => ?_)) | (with_reducible refine appD_V (by refine ⟨?_, ?_, ?_, ?_, ?_⟩ <;> (first | assumption | omega | exact St.has_add (by assumption) | (simp only [ins_has]; exact St.has_add (by assumption)) | (simp only [ins_has, fresh_ins, kill_ins, add_ins] at *; exact St.has_add (by assumption)) | (simp only [*, ins_has, has_full, St.has_add]; done) | (simp [-List.map_take, -List.map_drop, or_imp, forall_and, Seg.a, Vec.a, Leg.a, num, okEl, cells_agg, cells_int, cells_sl, cells_bool, AV.isCell]; done) | (simp; omega))) (fun _ _ => ?_))) | (with_reducible refine freshQ_i (fun _ _ => ?_)) | (with_reducible refine nilQ_i (fun _ _ => ?_))))
  · rintro fr hfr hd ⟨h5, HI⟩
    rw [List.take_length] at HI
    rw [HI.out]
    clear HI
    (repeat' (first | (simp (config := { maxDischargeDepth := 16 }) only [*, vX, Int.reduceLE, Int.reduceLT, Int.reduceGE, Int.reduceGT, Int.reduceBEq, Int.reduceBNe, Int.reduceAdd, Int.reduceSub, Int.reduceMul, Int.reduceNeg, ↓vD, vU, VE.ev, VE.evs, retvs, tupOf, grab, vfill, vbsl, eqCells, eqCell, veqs, veqs1, vmnx, AV.isCell, AV.isUndef, Nat.reduceEqDiff, Nat.reduceAdd, Nat.reduceSub, Nat.reduceLeDiff, Nat.reduceLT, reduceIte, reduceCtorEq, Nat.reduceBEq]) | (simp (disch := first | assumption | omega | exact Seg.len _ | exact Vec.len _ | exact Leg.len _ | exact num_len _ | exact rowA_len _ | exact rowA_len | exact rowT_len _ | exact rowT_len | exact Seg.len | exact Vec.len | exact Leg.len | exact num_len | exact AV.slen _ _ | rfl) only [vP]) | (with_reducible (first | refine gsnd (fun _ => ?_) (fun _ => ?_) | refine csnd (fun _ => ?_) (fun _ => ?_) | refine gsd (fun _ => ?_) (fun _ => ?_) | refine csd (fun _ => ?_) (fun _ => ?_) | refine gsn (fun _ => ?_) (fun _ => ?_) | refine csn (fun _ => ?_) (fun _ => ?_))) | (with_reducible refine gs (fun _ => ?_) (fun _ => ?_)) | (with_reducible refine cs_ (fun _ => ?_) (fun _ => ?_)) | (with_reducible refine objQ_i (fun _ _ => ?_); (repeat (with_reducible refine imp_i (fun _ => ?_)))) | ((try with_reducible refine appK_a ?_); first | (with_reducible refine appD_F (by refine ⟨?_, ?_, ?_, ?_⟩ <;> (first | assumption | omega | exact St.has_add (by assumption) | (simp only [ins_has]; exact St.has_add (by assumption)) | (simp only [ins_has, fresh_ins, kill_ins, add_ins] at *; exact St.has_add (by assumption)) | (simp only [*, ins_has, has_full, St.has_add]; done) | (simp [-List.map_take, -List.map_drop, or_imp, forall_and, Seg.a, Vec.a, Leg.a, num, okEl, cells_agg, cells_int, cells_sl, cells_bool, AV.isCell]; done) | (simp; omega))) (fun _ _ => ?_)) | (with_reducible refine appD_V (by refine ⟨?_, ?_, ?_, ?_, ?_⟩ <;> (first | assumption | omega | exact St.has_add (by assumption) | (simp only [ins_has]; exact St.has_add (by assumption)) | (simp only [ins_has, fresh_ins, kill_ins, add_ins] at *; exact St.has_add (by assumption)) | (simp only [*, ins_has, has_full, St.has_add]; done) | (simp [-List.map_take, -List.map_drop, or_imp, forall_and, Seg.a, Vec.a, Leg.a, num, okEl, cells_agg, cells_int, cells_sl, cells_bool, AV.isCell]; done) | (simp; omega))) (fun _ _ => ?_))) | (with_reducible refine freshQ_i (fun _ _ => ?_)) | (with_reducible refine nilQ_i (fun _ _ => ?_))))
theorem slotMore_v (f : List Seg) (_ : ∀ x ∈ f, wfSeg x) (hf : (f.length : Int) ≤ 9223372036854775807) (g : List Seg) (_ : ∀ x ∈ g, wfSeg x) (hgl : (g.length : Int) ≤ 9223372036854775807) (x : RowX) (hx : wfRowX x) :
    VPure Try.prog 13 [.sl (f.map Seg.a) .no, .sl (g.map Seg.a) .no, x.a] (.bool true) := by
  obtain ⟨w, l, b0, b1⟩ := x
  obtain ⟨⟨⟨w1, w2⟩, w3, w4⟩, ⟨_, hl⟩, hb0, hb1⟩ := hx
  simp only [U8] at w1 w2 w3 w4 hl hb0 hb1 ⊢
  simp only [RowX.a]
  have hg := great_16 f hf w l hl .no .no
  refine VPure.of v_liverylaw16_SlotMore_ok (Nat.le_of_ble_eq_true rfl) (fun Z st => ?_)
  by_cases hgr : greatF f w l = true
  · rw [hgr] at hg
    clear hgr
    simp only [v_liverylaw16_SlotMore, ↓vD, vU, VE.ev, VE.evs, retvs, tupOf, grab, vfill, vbsl, eqCells, eqCell, veqs, veqs1, vmnx, AV.isCell, AV.isUndef, Nat.reduceEqDiff, Nat.reduceAdd, Nat.reduceSub, Nat.reduceLeDiff, Nat.reduceLT, reduceIte, reduceCtorEq, Nat.reduceBEq, k_app, k_slc1]
    (repeat' (first | (simp (config := { maxDischargeDepth := 16 }) only [*, vX, Int.reduceLE, Int.reduceLT, Int.reduceGE, Int.reduceGT, Int.reduceBEq, Int.reduceBNe, Int.reduceAdd, Int.reduceSub, Int.reduceMul, Int.reduceNeg, ↓vD, vU, VE.ev, VE.evs, retvs, tupOf, grab, vfill, vbsl, eqCells, eqCell, veqs, veqs1, vmnx, AV.isCell, AV.isUndef, Nat.reduceEqDiff, Nat.reduceAdd, Nat.reduceSub, Nat.reduceLeDiff, Nat.reduceLT, reduceIte, reduceCtorEq, Nat.reduceBEq]) | (simp (disch := first | assumption | omega | exact Seg.len _ | exact Vec.len _ | exact Leg.len _ | exact num_len _ | exact rowA_len _ | exact rowA_len | exact rowT_len _ | exact rowT_len | exact Seg.len | exact Vec.len | exact Leg.len | exact num_len | exact AV.slen _ _ | rfl) only [vP]) | (with_reducible (first | refine gsnd (fun _ => ?_) (fun _ => ?_) | refine csnd (fun _ => ?_) (fun _ => ?_) | refine gsd (fun _ => ?_) (fun _ => ?_) | refine csd (fun _ => ?_) (fun _ => ?_) | refine gsn (fun _ => ?_) (fun _ => ?_) | refine csn (fun _ => ?_) (fun _ => ?_))) | (with_reducible refine gs (fun _ => ?_) (fun _ => ?_)) | (with_reducible refine cs_ (fun _ => ?_) (fun _ => ?_)) | (with_reducible refine objQ_i (fun _ _ => ?_); (repeat (with_reducible refine imp_i (fun _ => ?_)))) | ((try with_reducible refine appK_a ?_); first | (with_reducible refine appD_F (by refine ⟨?_, ?_, ?_, ?_⟩ <;> (first | assumption | omega | exact St.has_add (by assumption) | (simp only [ins_has]; exact St.has_add (by assumption)) | (simp only [ins_has, fresh_ins, kill_ins, add_ins] at *; exact St.has_add (by assumption)) | (simp only [*, ins_has, has_full, St.has_add]; done) | (simp [-List.map_take, -List.map_drop, or_imp, forall_and, Seg.a, Vec.a, Leg.a, num, okEl, cells_agg, cells_int, cells_sl, cells_bool, AV.isCell]; done) | (simp; omega))) (fun _ _ => ?_)) | (with_reducible refine appD_V (by refine ⟨?_, ?_, ?_, ?_, ?_⟩ <;> (first | assumption | omega | exact St.has_add (by assumption) | (simp only [ins_has]; exact St.has_add (by assumption)) | (simp only [ins_has, fresh_ins, kill_ins, add_ins] at *; exact St.has_add (by assumption)) | (simp only [*, ins_has, has_full, St.has_add]; done) | (simp [-List.map_take, -List.map_drop, or_imp, forall_and, Seg.a, Vec.a, Leg.a, num, okEl, cells_agg, cells_int, cells_sl, cells_bool, AV.isCell]; done) | (simp; omega))) (fun _ _ => ?_))) | (with_reducible refine freshQ_i (fun _ _ => ?_)) | (with_reducible refine nilQ_i (fun _ _ => ?_)) | (with_reducible first | refine callH_use (hg) ?_ | refine pureQ_use (hg) ?_) | (with_reducible first | refine callH_use (head_16) ?_ | refine pureQ_use (head_16) ?_)))
  have hgf : greatF f w l = false := by simpa using hgr
  rw [hgf] at hg
  have hlim : f.length ≤ 60 ∧ l.length ≤ 30 := by
    unfold greatF at hgf
    simp only [Bool.or_eq_false_iff, decide_eq_false_iff_not] at hgf
    omega
  obtain ⟨hf60, hl30⟩ := hlim
  clear hgr hgf hf hl
  by_cases hg60 : 60 < g.length
  · simp only [v_liverylaw16_SlotMore, ↓vD, vU, VE.ev, VE.evs, retvs, tupOf, grab, vfill, vbsl, eqCells, eqCell, veqs, veqs1, vmnx, AV.isCell, AV.isUndef, Nat.reduceEqDiff, Nat.reduceAdd, Nat.reduceSub, Nat.reduceLeDiff, Nat.reduceLT, reduceIte, reduceCtorEq, Nat.reduceBEq, k_app, k_slc1]
    (repeat' (first | (simp (config := { maxDischargeDepth := 16 }) only [*, vX, Int.reduceLE, Int.reduceLT, Int.reduceGE, Int.reduceGT, Int.reduceBEq, Int.reduceBNe, Int.reduceAdd, Int.reduceSub, Int.reduceMul, Int.reduceNeg, ↓vD, vU, VE.ev, VE.evs, retvs, tupOf, grab, vfill, vbsl, eqCells, eqCell, veqs, veqs1, vmnx, AV.isCell, AV.isUndef, Nat.reduceEqDiff, Nat.reduceAdd, Nat.reduceSub, Nat.reduceLeDiff, Nat.reduceLT, reduceIte, reduceCtorEq, Nat.reduceBEq]) | (simp (disch := first | assumption | omega | exact Seg.len _ | exact Vec.len _ | exact Leg.len _ | exact num_len _ | exact rowA_len _ | exact rowA_len | exact rowT_len _ | exact rowT_len | exact Seg.len | exact Vec.len | exact Leg.len | exact num_len | exact AV.slen _ _ | rfl) only [vP]) | (with_reducible (first | refine gsnd (fun _ => ?_) (fun _ => ?_) | refine csnd (fun _ => ?_) (fun _ => ?_) | refine gsd (fun _ => ?_) (fun _ => ?_) | refine csd (fun _ => ?_) (fun _ => ?_) | refine gsn (fun _ => ?_) (fun _ => ?_) | refine csn (fun _ => ?_) (fun _ => ?_))) | (with_reducible refine gs (fun _ => ?_) (fun _ => ?_)) | (with_reducible refine cs_ (fun _ => ?_) (fun _ => ?_)) | (with_reducible refine objQ_i (fun _ _ => ?_); (repeat (with_reducible refine imp_i (fun _ => ?_)))) | ((try with_reducible refine appK_a ?_); first | (with_reducible refine appD_F (by refine ⟨?_, ?_, ?_, ?_⟩ <;> (first | assumption | omega | exact St.has_add (by assumption) | (simp only [ins_has]; exact St.has_add (by assumption)) | (simp only [ins_has, fresh_ins, kill_ins, add_ins] at *; exact St.has_add (by assumption)) | (simp only [*, ins_has, has_full, St.has_add]; done) | (simp [-List.map_take, -List.map_drop, or_imp, forall_and, Seg.a, Vec.a, Leg.a, num, okEl, cells_agg, cells_int, cells_sl, cells_bool, AV.isCell]; done) | (simp; omega))) (fun _ _ => ?_)) | (with_reducible refine appD_V (by refine ⟨?_, ?_, ?_, ?_, ?_⟩ <;> (first | assumption | omega | exact St.has_add (by assumption) | (simp only [ins_has]; exact St.has_add (by assumption)) | (simp only [ins_has, fresh_ins, kill_ins, add_ins] at *; exact St.has_add (by assumption)) | (simp only [*, ins_has, has_full, St.has_add]; done) | (simp [-List.map_take, -List.map_drop, or_imp, forall_and, Seg.a, Vec.a, Leg.a, num, okEl, cells_agg, cells_int, cells_sl, cells_bool, AV.isCell]; done) | (simp; omega))) (fun _ _ => ?_))) | (with_reducible refine freshQ_i (fun _ _ => ?_)) | (with_reducible refine nilQ_i (fun _ _ => ?_)) | (with_reducible first | refine callH_use (hg) ?_ | refine pureQ_use (hg) ?_) | (with_reducible first | refine callH_use (head_16) ?_ | refine pureQ_use (head_16) ?_)))
  have hB := Begins_c f (by omega) w w1 w4 l (by omega) .no .no
  by_cases he : (beginsF f w l).2 = 0
  case neg =>
    obtain ⟨B, hBe⟩ : ∃ B, beginsF f w l = B := ⟨_, rfl⟩
    rw [hBe] at hB he
    unfold num at hB
    clear hBe
    simp only [v_liverylaw16_SlotMore, ↓vD, vU, VE.ev, VE.evs, retvs, tupOf, grab, vfill, vbsl, eqCells, eqCell, veqs, veqs1, vmnx, AV.isCell, AV.isUndef, Nat.reduceEqDiff, Nat.reduceAdd, Nat.reduceSub, Nat.reduceLeDiff, Nat.reduceLT, reduceIte, reduceCtorEq, Nat.reduceBEq, k_app, k_slc1]
    (repeat' (first | (simp (config := { maxDischargeDepth := 16 }) only [*, vX, Int.reduceLE, Int.reduceLT, Int.reduceGE, Int.reduceGT, Int.reduceBEq, Int.reduceBNe, Int.reduceAdd, Int.reduceSub, Int.reduceMul, Int.reduceNeg, ↓vD, vU, VE.ev, VE.evs, retvs, tupOf, grab, vfill, vbsl, eqCells, eqCell, veqs, veqs1, vmnx, AV.isCell, AV.isUndef, Nat.reduceEqDiff, Nat.reduceAdd, Nat.reduceSub, Nat.reduceLeDiff, Nat.reduceLT, reduceIte, reduceCtorEq, Nat.reduceBEq]) | (simp (disch := first | assumption | omega | exact Seg.len _ | exact Vec.len _ | exact Leg.len _ | exact num_len _ | exact rowA_len _ | exact rowA_len | exact rowT_len _ | exact rowT_len | exact Seg.len | exact Vec.len | exact Leg.len | exact num_len | exact AV.slen _ _ | rfl) only [vP]) | (with_reducible (first | refine gsnd (fun _ => ?_) (fun _ => ?_) | refine csnd (fun _ => ?_) (fun _ => ?_) | refine gsd (fun _ => ?_) (fun _ => ?_) | refine csd (fun _ => ?_) (fun _ => ?_) | refine gsn (fun _ => ?_) (fun _ => ?_) | refine csn (fun _ => ?_) (fun _ => ?_))) | (with_reducible refine gs (fun _ => ?_) (fun _ => ?_)) | (with_reducible refine cs_ (fun _ => ?_) (fun _ => ?_)) | (with_reducible refine objQ_i (fun _ _ => ?_); (repeat (with_reducible refine imp_i (fun _ => ?_)))) | ((try with_reducible refine appK_a ?_); first | (with_reducible refine appD_F (by refine ⟨?_, ?_, ?_, ?_⟩ <;> (first | assumption | omega | exact St.has_add (by assumption) | (simp only [ins_has]; exact St.has_add (by assumption)) | (simp only [ins_has, fresh_ins, kill_ins, add_ins] at *; exact St.has_add (by assumption)) | (simp only [*, ins_has, has_full, St.has_add]; done) | (simp [-List.map_take, -List.map_drop, or_imp, forall_and, Seg.a, Vec.a, Leg.a, num, okEl, cells_agg, cells_int, cells_sl, cells_bool, AV.isCell]; done) | (simp; omega))) (fun _ _ => ?_)) | (with_reducible refine appD_V (by refine ⟨?_, ?_, ?_, ?_, ?_⟩ <;> (first | assumption | omega | exact St.has_add (by assumption) | (simp only [ins_has]; exact St.has_add (by assumption)) | (simp only [ins_has, fresh_ins, kill_ins, add_ins] at *; exact St.has_add (by assumption)) | (simp only [*, ins_has, has_full, St.has_add]; done) | (simp [-List.map_take, -List.map_drop, or_imp, forall_and, Seg.a, Vec.a, Leg.a, num, okEl, cells_agg, cells_int, cells_sl, cells_bool, AV.isCell]; done) | (simp; omega))) (fun _ _ => ?_))) | (with_reducible refine freshQ_i (fun _ _ => ?_)) | (with_reducible refine nilQ_i (fun _ _ => ?_)) | (with_reducible first | refine callH_use (hg) ?_ | refine pureQ_use (hg) ?_) | (with_reducible first | refine callH_use (head_16) ?_ | refine pureQ_use (head_16) ?_) | (with_reducible first | refine callH_use (hB) ?_ | refine pureQ_use (hB) ?_)))
  have hO : OkB f w l := check_ok.1 (by rw [← begins_err]; exact he)
  have h3' := hO.from_
  have h4' := hO.to_
  have hsp := hO.span
  have hwin := hO.win
  simp only [farF, Bool.or_eq_false_iff, decide_eq_false_iff_not] at h3' h4'
  obtain ⟨p1, p2⟩ := h3'
  obtain ⟨p3, p4⟩ := h4'
  obtain ⟨q0, hq0⟩ : ∃ q, b0.tmod 40 = q := ⟨_, rfl⟩
  obtain ⟨q1, hq1⟩ : ∃ q, b1.tmod 40 = q := ⟨_, rfl⟩
  have hq0' : 0 ≤ q0 ∧ q0 < 40 := by rw [← hq0]; exact ⟨Int.tmod_nonneg _ hb0.1, Int.tmod_lt_of_pos _ (by omega)⟩
  have hq1' : 0 ≤ q1 ∧ q1 < 40 := by rw [← hq1]; exact ⟨Int.tmod_nonneg _ hb1.1, Int.tmod_lt_of_pos _ (by omega)⟩
  have hW := Begins_c f (by omega) ⟨w.m - q0, w.c + q1⟩ (by simp only; omega) (by simp only; omega) l (by omega) .no .no
  have hwb : (beginsF f ⟨w.m - q0, w.c + q1⟩ l).2 = 0 → withinB (beginsF f w l).1 (beginsF f ⟨w.m - q0, w.c + q1⟩ l).1 = true := fun h =>
    more_wide hO (check_ok.1 (by rw [← begins_err]; exact h)) (by simp only; omega) (by simp only; omega)
  have hMx := Max_c f g (by omega) (by omega) .no .no
  rw [max_do] at hMx
  have hml := doR_len 3 f g
  obtain ⟨M, hM⟩ : ∃ M, doR 3 f g = M := ⟨_, rfl⟩
  rw [hM] at hMx hml
  have hC := Begins_c M.1 (by omega) w w1 w4 l (by omega) .no .no
  have hcb : M.2 = 0 → (beginsF M.1 w l).2 = 0 ∧ withinB (beginsF f w l).1 (beginsF M.1 w l).1 = true := fun h => by
    have hmg : mayF g = true := by
      cases hmg : mayF g with
      | true => rfl
      | false =>
        unfold doR at hM
        rw [hO.may, hmg] at hM
        simp at hM
        rw [← hM] at h; simp at h
    obtain ⟨_, m2, m3⟩ := max_ok f g hO.may hmg
    rw [hM] at m2 m3
    obtain ⟨r1, r2⟩ := more_max hO m2 (fun t => by rw [m3 t]; simp only [maxV, Vec.mk.injEq]; omega)
    exact ⟨by rw [begins_err, check_1 r1], r2⟩
  have hD := Begins_c f (by omega) w w1 w4 (l.take (l.length - 1)) (by rw [List.length_take]; omega) .no .no
  have hdb : 1 < l.length → (beginsF f w (l.take (l.length - 1))).2 = 0 ∧ withinB (beginsF f w l).1 (beginsF f w (l.take (l.length - 1))).1 = true := fun h => by
    obtain ⟨r1, r2⟩ := more_take hO h
    exact ⟨by rw [begins_err, check_1 r1], r2⟩
  rw [he] at hB
  have n1 := (beginsF_len f w l).1
  have n2 := (beginsF_len f ⟨w.m - q0, w.c + q1⟩ l).1
  have n3 := (beginsF_len M.1 w l).1
  have n4 := (beginsF_len f w (l.take (l.length - 1))).1
  obtain ⟨A, hA⟩ : ∃ A, (beginsF f w l).1 = A := ⟨_, rfl⟩
  obtain ⟨B, hBe⟩ : ∃ B, beginsF f ⟨w.m - q0, w.c + q1⟩ l = B := ⟨_, rfl⟩
  obtain ⟨C, hCe⟩ : ∃ C, beginsF M.1 w l = C := ⟨_, rfl⟩
  obtain ⟨D, hDe⟩ : ∃ D, beginsF f w (l.take (l.length - 1)) = D := ⟨_, rfl⟩
  rw [hA] at hB hwb hcb hdb n1
  rw [hBe] at hW hwb n2
  rw [hCe] at hC hcb n3
  rw [hDe] at hD hdb n4
  have hi1 := within_v A B.1 (by omega) (by omega) .no .no
  have hi2 := within_v A C.1 (by omega) (by omega) .no .no
  have hi3 := within_v A D.1 (by omega) (by omega) .no .no
  simp only [num] at hB hW hC hD hMx
  have h40 : (40 : Int) ≠ 0 := by omega
  have el : IntKind.i64.wrap ((l.length : Int) - 1) = (l.length : Int) - 1 := wrap_i64 _ (by omega) (by omega)
  have el2 : ((l.length : Int) - 1).toNat = l.length - 1 := by omega
  clear hA hBe hCe hDe hM hO he hml n1 n2 n3 n4
  by_cases hB0 : B.2 = 0
  · rw [hwb hB0] at hi1
    by_cases hM0 : M.2 = 0
    · obtain ⟨c1, c2⟩ := hcb hM0
      rw [c2] at hi2
      clear hwb hcb c2
      by_cases hl1 : 1 < l.length
      · obtain ⟨d1, d2⟩ := hdb hl1
        rw [d2] at hi3
        clear hdb d2
        simp only [v_liverylaw16_SlotMore, ↓vD, vU, VE.ev, VE.evs, retvs, tupOf, grab, vfill, vbsl, eqCells, eqCell, veqs, veqs1, vmnx, AV.isCell, AV.isUndef, Nat.reduceEqDiff, Nat.reduceAdd, Nat.reduceSub, Nat.reduceLeDiff, Nat.reduceLT, reduceIte, reduceCtorEq, Nat.reduceBEq, k_app, k_slc1]
        (repeat' (first | (simp (config := { maxDischargeDepth := 16 }) only [*, iaa0, iaa1, e_rem, e_slcH, vX, Int.reduceLE, Int.reduceLT, Int.reduceGE, Int.reduceGT, Int.reduceBEq, Int.reduceBNe, Int.reduceAdd, Int.reduceSub, Int.reduceMul, Int.reduceNeg, ↓vD, vU, VE.ev, VE.evs, retvs, tupOf, grab, vfill, vbsl, eqCells, eqCell, veqs, veqs1, vmnx, AV.isCell, AV.isUndef, Nat.reduceEqDiff, Nat.reduceAdd, Nat.reduceSub, Nat.reduceLeDiff, Nat.reduceLT, reduceIte, reduceCtorEq, Nat.reduceBEq]) | (simp (disch := first | assumption | omega | exact Seg.len _ | exact Vec.len _ | exact Leg.len _ | exact num_len _ | exact rowA_len _ | exact rowA_len | exact rowT_len _ | exact rowT_len | exact Seg.len | exact Vec.len | exact Leg.len | exact num_len | exact AV.slen _ _ | rfl) only [iaa0, iaa1, e_rem, e_slcH, vP]) | (with_reducible (first | refine gsnd (fun _ => ?_) (fun _ => ?_) | refine csnd (fun _ => ?_) (fun _ => ?_) | refine gsd (fun _ => ?_) (fun _ => ?_) | refine csd (fun _ => ?_) (fun _ => ?_) | refine gsn (fun _ => ?_) (fun _ => ?_) | refine csn (fun _ => ?_) (fun _ => ?_))) | (with_reducible refine gs (fun _ => ?_) (fun _ => ?_)) | (with_reducible refine cs_ (fun _ => ?_) (fun _ => ?_)) | (with_reducible refine objQ_i (fun _ _ => ?_); (repeat (with_reducible refine imp_i (fun _ => ?_)))) | ((try with_reducible refine appK_a ?_); first | (with_reducible refine appD_F (by refine ⟨?_, ?_, ?_, ?_⟩ <;> (first | assumption | omega | exact St.has_add (by assumption) | (simp only [ins_has]; exact St.has_add (by assumption)) | (simp only [ins_has, fresh_ins, kill_ins, add_ins] at *; exact St.has_add (by assumption)) | (simp only [*, ins_has, has_full, St.has_add]; done) | (simp [-List.map_take, -List.map_drop, or_imp, forall_and, Seg.a, Vec.a, Leg.a, num, okEl, cells_agg, cells_int, cells_sl, cells_bool, AV.isCell]; done) | (simp; omega))) (fun _ _ => ?_)) | (with_reducible refine appD_V (by refine ⟨?_, ?_, ?_, ?_, ?_⟩ <;> (first | assumption | omega | exact St.has_add (by assumption) | (simp only [ins_has]; exact St.has_add (by assumption)) | (simp only [ins_has, fresh_ins, kill_ins, add_ins] at *; exact St.has_add (by assumption)) | (simp only [*, ins_has, has_full, St.has_add]; done) | (simp [-List.map_take, -List.map_drop, or_imp, forall_and, Seg.a, Vec.a, Leg.a, num, okEl, cells_agg, cells_int, cells_sl, cells_bool, AV.isCell]; done) | (simp; omega))) (fun _ _ => ?_))) | (with_reducible refine freshQ_i (fun _ _ => ?_)) | (with_reducible refine nilQ_i (fun _ _ => ?_)) | (with_reducible first | refine callH_use (hg) ?_ | refine pureQ_use (hg) ?_) | (with_reducible first | refine callH_use (head_16) ?_ | refine pureQ_use (head_16) ?_) | (with_reducible first | refine callH_use (hB) ?_ | refine pureQ_use (hB) ?_) | (with_reducible first | refine callH_use (hW) ?_ | refine pureQ_use (hW) ?_) | (with_reducible first | refine callH_use (hC) ?_ | refine pureQ_use (hC) ?_) | (with_reducible first | refine callH_use (hD) ?_ | refine pureQ_use (hD) ?_) | (with_reducible first | refine callH_use (hMx) ?_ | refine pureQ_use (hMx) ?_) | (with_reducible first | refine callH_use (hi1) ?_ | refine pureQ_use (hi1) ?_) | (with_reducible first | refine callH_use (hi2) ?_ | refine pureQ_use (hi2) ?_) | (with_reducible first | refine callH_use (hi3) ?_ | refine pureQ_use (hi3) ?_)))
        all_goals first | done | trace_state
      · clear hdb
        simp only [v_liverylaw16_SlotMore, ↓vD, vU, VE.ev, VE.evs, retvs, tupOf, grab, vfill, vbsl, eqCells, eqCell, veqs, veqs1, vmnx, AV.isCell, AV.isUndef, Nat.reduceEqDiff, Nat.reduceAdd, Nat.reduceSub, Nat.reduceLeDiff, Nat.reduceLT, reduceIte, reduceCtorEq, Nat.reduceBEq, k_app, k_slc1]
        (repeat' (first | (simp (config := { maxDischargeDepth := 16 }) only [*, iaa0, iaa1, e_rem, vX, Int.reduceLE, Int.reduceLT, Int.reduceGE, Int.reduceGT, Int.reduceBEq, Int.reduceBNe, Int.reduceAdd, Int.reduceSub, Int.reduceMul, Int.reduceNeg, ↓vD, vU, VE.ev, VE.evs, retvs, tupOf, grab, vfill, vbsl, eqCells, eqCell, veqs, veqs1, vmnx, AV.isCell, AV.isUndef, Nat.reduceEqDiff, Nat.reduceAdd, Nat.reduceSub, Nat.reduceLeDiff, Nat.reduceLT, reduceIte, reduceCtorEq, Nat.reduceBEq]) | (simp (disch := first | assumption | omega | exact Seg.len _ | exact Vec.len _ | exact Leg.len _ | exact num_len _ | exact rowA_len _ | exact rowA_len | exact rowT_len _ | exact rowT_len | exact Seg.len | exact Vec.len | exact Leg.len | exact num_len | exact AV.slen _ _ | rfl) only [iaa0, iaa1, e_rem, vP]) | (with_reducible (first | refine gsnd (fun _ => ?_) (fun _ => ?_) | refine csnd (fun _ => ?_) (fun _ => ?_) | refine gsd (fun _ => ?_) (fun _ => ?_) | refine csd (fun _ => ?_) (fun _ => ?_) | refine gsn (fun _ => ?_) (fun _ => ?_) | refine csn (fun _ => ?_) (fun _ => ?_))) | (with_reducible refine gs (fun _ => ?_) (fun _ => ?_)) | (with_reducible refine cs_ (fun _ => ?_) (fun _ => ?_)) | (with_reducible refine objQ_i (fun _ _ => ?_); (repeat (with_reducible refine imp_i (fun _ => ?_)))) | ((try with_reducible refine appK_a ?_); first | (with_reducible refine appD_F (by refine ⟨?_, ?_, ?_, ?_⟩ <;> (first | assumption | omega | exact St.has_add (by assumption) | (simp only [ins_has]; exact St.has_add (by assumption)) | (simp only [ins_has, fresh_ins, kill_ins, add_ins] at *; exact St.has_add (by assumption)) | (simp only [*, ins_has, has_full, St.has_add]; done) | (simp [-List.map_take, -List.map_drop, or_imp, forall_and, Seg.a, Vec.a, Leg.a, num, okEl, cells_agg, cells_int, cells_sl, cells_bool, AV.isCell]; done) | (simp; omega))) (fun _ _ => ?_)) | (with_reducible refine appD_V (by refine ⟨?_, ?_, ?_, ?_, ?_⟩ <;> (first | assumption | omega | exact St.has_add (by assumption) | (simp only [ins_has]; exact St.has_add (by assumption)) | (simp only [ins_has, fresh_ins, kill_ins, add_ins] at *; exact St.has_add (by assumption)) | (simp only [*, ins_has, has_full, St.has_add]; done) | (simp [-List.map_take, -List.map_drop, or_imp, forall_and, Seg.a, Vec.a, Leg.a, num, okEl, cells_agg, cells_int, cells_sl, cells_bool, AV.isCell]; done) | (simp; omega))) (fun _ _ => ?_))) | (with_reducible refine freshQ_i (fun _ _ => ?_)) | (with_reducible refine nilQ_i (fun _ _ => ?_)) | (with_reducible first | refine callH_use (hg) ?_ | refine pureQ_use (hg) ?_) | (with_reducible first | refine callH_use (head_16) ?_ | refine pureQ_use (head_16) ?_) | (with_reducible first | refine callH_use (hB) ?_ | refine pureQ_use (hB) ?_) | (with_reducible first | refine callH_use (hW) ?_ | refine pureQ_use (hW) ?_) | (with_reducible first | refine callH_use (hC) ?_ | refine pureQ_use (hC) ?_) | (with_reducible first | refine callH_use (hD) ?_ | refine pureQ_use (hD) ?_) | (with_reducible first | refine callH_use (hMx) ?_ | refine pureQ_use (hMx) ?_) | (with_reducible first | refine callH_use (hi1) ?_ | refine pureQ_use (hi1) ?_) | (with_reducible first | refine callH_use (hi2) ?_ | refine pureQ_use (hi2) ?_) | (with_reducible first | refine callH_use (hi3) ?_ | refine pureQ_use (hi3) ?_)))
        all_goals first | done | trace_state
    · clear hwb hcb
      by_cases hl1 : 1 < l.length
      · obtain ⟨d1, d2⟩ := hdb hl1
        rw [d2] at hi3
        clear hdb d2
        simp only [v_liverylaw16_SlotMore, ↓vD, vU, VE.ev, VE.evs, retvs, tupOf, grab, vfill, vbsl, eqCells, eqCell, veqs, veqs1, vmnx, AV.isCell, AV.isUndef, Nat.reduceEqDiff, Nat.reduceAdd, Nat.reduceSub, Nat.reduceLeDiff, Nat.reduceLT, reduceIte, reduceCtorEq, Nat.reduceBEq, k_app, k_slc1]
        (repeat' (first | (simp (config := { maxDischargeDepth := 16 }) only [*, iaa0, iaa1, e_rem, e_slcH, vX, Int.reduceLE, Int.reduceLT, Int.reduceGE, Int.reduceGT, Int.reduceBEq, Int.reduceBNe, Int.reduceAdd, Int.reduceSub, Int.reduceMul, Int.reduceNeg, ↓vD, vU, VE.ev, VE.evs, retvs, tupOf, grab, vfill, vbsl, eqCells, eqCell, veqs, veqs1, vmnx, AV.isCell, AV.isUndef, Nat.reduceEqDiff, Nat.reduceAdd, Nat.reduceSub, Nat.reduceLeDiff, Nat.reduceLT, reduceIte, reduceCtorEq, Nat.reduceBEq]) | (simp (disch := first | assumption | omega | exact Seg.len _ | exact Vec.len _ | exact Leg.len _ | exact num_len _ | exact rowA_len _ | exact rowA_len | exact rowT_len _ | exact rowT_len | exact Seg.len | exact Vec.len | exact Leg.len | exact num_len | exact AV.slen _ _ | rfl) only [iaa0, iaa1, e_rem, e_slcH, vP]) | (with_reducible (first | refine gsnd (fun _ => ?_) (fun _ => ?_) | refine csnd (fun _ => ?_) (fun _ => ?_) | refine gsd (fun _ => ?_) (fun _ => ?_) | refine csd (fun _ => ?_) (fun _ => ?_) | refine gsn (fun _ => ?_) (fun _ => ?_) | refine csn (fun _ => ?_) (fun _ => ?_))) | (with_reducible refine gs (fun _ => ?_) (fun _ => ?_)) | (with_reducible refine cs_ (fun _ => ?_) (fun _ => ?_)) | (with_reducible refine objQ_i (fun _ _ => ?_); (repeat (with_reducible refine imp_i (fun _ => ?_)))) | ((try with_reducible refine appK_a ?_); first | (with_reducible refine appD_F (by refine ⟨?_, ?_, ?_, ?_⟩ <;> (first | assumption | omega | exact St.has_add (by assumption) | (simp only [ins_has]; exact St.has_add (by assumption)) | (simp only [ins_has, fresh_ins, kill_ins, add_ins] at *; exact St.has_add (by assumption)) | (simp only [*, ins_has, has_full, St.has_add]; done) | (simp [-List.map_take, -List.map_drop, or_imp, forall_and, Seg.a, Vec.a, Leg.a, num, okEl, cells_agg, cells_int, cells_sl, cells_bool, AV.isCell]; done) | (simp; omega))) (fun _ _ => ?_)) | (with_reducible refine appD_V (by refine ⟨?_, ?_, ?_, ?_, ?_⟩ <;> (first | assumption | omega | exact St.has_add (by assumption) | (simp only [ins_has]; exact St.has_add (by assumption)) | (simp only [ins_has, fresh_ins, kill_ins, add_ins] at *; exact St.has_add (by assumption)) | (simp only [*, ins_has, has_full, St.has_add]; done) | (simp [-List.map_take, -List.map_drop, or_imp, forall_and, Seg.a, Vec.a, Leg.a, num, okEl, cells_agg, cells_int, cells_sl, cells_bool, AV.isCell]; done) | (simp; omega))) (fun _ _ => ?_))) | (with_reducible refine freshQ_i (fun _ _ => ?_)) | (with_reducible refine nilQ_i (fun _ _ => ?_)) | (with_reducible first | refine callH_use (hg) ?_ | refine pureQ_use (hg) ?_) | (with_reducible first | refine callH_use (head_16) ?_ | refine pureQ_use (head_16) ?_) | (with_reducible first | refine callH_use (hB) ?_ | refine pureQ_use (hB) ?_) | (with_reducible first | refine callH_use (hW) ?_ | refine pureQ_use (hW) ?_) | (with_reducible first | refine callH_use (hC) ?_ | refine pureQ_use (hC) ?_) | (with_reducible first | refine callH_use (hD) ?_ | refine pureQ_use (hD) ?_) | (with_reducible first | refine callH_use (hMx) ?_ | refine pureQ_use (hMx) ?_) | (with_reducible first | refine callH_use (hi1) ?_ | refine pureQ_use (hi1) ?_) | (with_reducible first | refine callH_use (hi2) ?_ | refine pureQ_use (hi2) ?_) | (with_reducible first | refine callH_use (hi3) ?_ | refine pureQ_use (hi3) ?_)))
        all_goals first | done | trace_state
      · clear hdb
        simp only [v_liverylaw16_SlotMore, ↓vD, vU, VE.ev, VE.evs, retvs, tupOf, grab, vfill, vbsl, eqCells, eqCell, veqs, veqs1, vmnx, AV.isCell, AV.isUndef, Nat.reduceEqDiff, Nat.reduceAdd, Nat.reduceSub, Nat.reduceLeDiff, Nat.reduceLT, reduceIte, reduceCtorEq, Nat.reduceBEq, k_app, k_slc1]
        (repeat' (first | (simp (config := { maxDischargeDepth := 16 }) only [*, iaa0, iaa1, e_rem, vX, Int.reduceLE, Int.reduceLT, Int.reduceGE, Int.reduceGT, Int.reduceBEq, Int.reduceBNe, Int.reduceAdd, Int.reduceSub, Int.reduceMul, Int.reduceNeg, ↓vD, vU, VE.ev, VE.evs, retvs, tupOf, grab, vfill, vbsl, eqCells, eqCell, veqs, veqs1, vmnx, AV.isCell, AV.isUndef, Nat.reduceEqDiff, Nat.reduceAdd, Nat.reduceSub, Nat.reduceLeDiff, Nat.reduceLT, reduceIte, reduceCtorEq, Nat.reduceBEq]) | (simp (disch := first | assumption | omega | exact Seg.len _ | exact Vec.len _ | exact Leg.len _ | exact num_len _ | exact rowA_len _ | exact rowA_len | exact rowT_len _ | exact rowT_len | exact Seg.len | exact Vec.len | exact Leg.len | exact num_len | exact AV.slen _ _ | rfl) only [iaa0, iaa1, e_rem, vP]) | (with_reducible (first | refine gsnd (fun _ => ?_) (fun _ => ?_) | refine csnd (fun _ => ?_) (fun _ => ?_) | refine gsd (fun _ => ?_) (fun _ => ?_) | refine csd (fun _ => ?_) (fun _ => ?_) | refine gsn (fun _ => ?_) (fun _ => ?_) | refine csn (fun _ => ?_) (fun _ => ?_))) | (with_reducible refine gs (fun _ => ?_) (fun _ => ?_)) | (with_reducible refine cs_ (fun _ => ?_) (fun _ => ?_)) | (with_reducible refine objQ_i (fun _ _ => ?_); (repeat (with_reducible refine imp_i (fun _ => ?_)))) | ((try with_reducible refine appK_a ?_); first | (with_reducible refine appD_F (by refine ⟨?_, ?_, ?_, ?_⟩ <;> (first | assumption | omega | exact St.has_add (by assumption) | (simp only [ins_has]; exact St.has_add (by assumption)) | (simp only [ins_has, fresh_ins, kill_ins, add_ins] at *; exact St.has_add (by assumption)) | (simp only [*, ins_has, has_full, St.has_add]; done) | (simp [-List.map_take, -List.map_drop, or_imp, forall_and, Seg.a, Vec.a, Leg.a, num, okEl, cells_agg, cells_int, cells_sl, cells_bool, AV.isCell]; done) | (simp; omega))) (fun _ _ => ?_)) | (with_reducible refine appD_V (by refine ⟨?_, ?_, ?_, ?_, ?_⟩ <;> (first | assumption | omega | exact St.has_add (by assumption) | (simp only [ins_has]; exact St.has_add (by assumption)) | (simp only [ins_has, fresh_ins, kill_ins, add_ins] at *; exact St.has_add (by assumption)) | (simp only [*, ins_has, has_full, St.has_add]; done) | (simp [-List.map_take, -List.map_drop, or_imp, forall_and, Seg.a, Vec.a, Leg.a, num, okEl, cells_agg, cells_int, cells_sl, cells_bool, AV.isCell]; done) | (simp; omega))) (fun _ _ => ?_))) | (with_reducible refine freshQ_i (fun _ _ => ?_)) | (with_reducible refine nilQ_i (fun _ _ => ?_)) | (with_reducible first | refine callH_use (hg) ?_ | refine pureQ_use (hg) ?_) | (with_reducible first | refine callH_use (head_16) ?_ | refine pureQ_use (head_16) ?_) | (with_reducible first | refine callH_use (hB) ?_ | refine pureQ_use (hB) ?_) | (with_reducible first | refine callH_use (hW) ?_ | refine pureQ_use (hW) ?_) | (with_reducible first | refine callH_use (hC) ?_ | refine pureQ_use (hC) ?_) | (with_reducible first | refine callH_use (hD) ?_ | refine pureQ_use (hD) ?_) | (with_reducible first | refine callH_use (hMx) ?_ | refine pureQ_use (hMx) ?_) | (with_reducible first | refine callH_use (hi1) ?_ | refine pureQ_use (hi1) ?_) | (with_reducible first | refine callH_use (hi2) ?_ | refine pureQ_use (hi2) ?_) | (with_reducible first | refine callH_use (hi3) ?_ | refine pureQ_use (hi3) ?_)))
        all_goals first | done | trace_state
  · clear hwb
    by_cases hM0 : M.2 = 0
    · obtain ⟨c1, c2⟩ := hcb hM0
      rw [c2] at hi2
      clear hcb c2
      by_cases hl1 : 1 < l.length
      · obtain ⟨d1, d2⟩ := hdb hl1
        rw [d2] at hi3
        clear hdb d2
        simp only [v_liverylaw16_SlotMore, ↓vD, vU, VE.ev, VE.evs, retvs, tupOf, grab, vfill, vbsl, eqCells, eqCell, veqs, veqs1, vmnx, AV.isCell, AV.isUndef, Nat.reduceEqDiff, Nat.reduceAdd, Nat.reduceSub, Nat.reduceLeDiff, Nat.reduceLT, reduceIte, reduceCtorEq, Nat.reduceBEq, k_app, k_slc1]
        (repeat' (first | (simp (config := { maxDischargeDepth := 16 }) only [*, iaa0, iaa1, e_rem, e_slcH, vX, Int.reduceLE, Int.reduceLT, Int.reduceGE, Int.reduceGT, Int.reduceBEq, Int.reduceBNe, Int.reduceAdd, Int.reduceSub, Int.reduceMul, Int.reduceNeg, ↓vD, vU, VE.ev, VE.evs, retvs, tupOf, grab, vfill, vbsl, eqCells, eqCell, veqs, veqs1, vmnx, AV.isCell, AV.isUndef, Nat.reduceEqDiff, Nat.reduceAdd, Nat.reduceSub, Nat.reduceLeDiff, Nat.reduceLT, reduceIte, reduceCtorEq, Nat.reduceBEq]) | (simp (disch := first | assumption | omega | exact Seg.len _ | exact Vec.len _ | exact Leg.len _ | exact num_len _ | exact rowA_len _ | exact rowA_len | exact rowT_len _ | exact rowT_len | exact Seg.len | exact Vec.len | exact Leg.len | exact num_len | exact AV.slen _ _ | rfl) only [iaa0, iaa1, e_rem, e_slcH, vP]) | (with_reducible (first | refine gsnd (fun _ => ?_) (fun _ => ?_) | refine csnd (fun _ => ?_) (fun _ => ?_) | refine gsd (fun _ => ?_) (fun _ => ?_) | refine csd (fun _ => ?_) (fun _ => ?_) | refine gsn (fun _ => ?_) (fun _ => ?_) | refine csn (fun _ => ?_) (fun _ => ?_))) | (with_reducible refine gs (fun _ => ?_) (fun _ => ?_)) | (with_reducible refine cs_ (fun _ => ?_) (fun _ => ?_)) | (with_reducible refine objQ_i (fun _ _ => ?_); (repeat (with_reducible refine imp_i (fun _ => ?_)))) | ((try with_reducible refine appK_a ?_); first | (with_reducible refine appD_F (by refine ⟨?_, ?_, ?_, ?_⟩ <;> (first | assumption | omega | exact St.has_add (by assumption) | (simp only [ins_has]; exact St.has_add (by assumption)) | (simp only [ins_has, fresh_ins, kill_ins, add_ins] at *; exact St.has_add (by assumption)) | (simp only [*, ins_has, has_full, St.has_add]; done) | (simp [-List.map_take, -List.map_drop, or_imp, forall_and, Seg.a, Vec.a, Leg.a, num, okEl, cells_agg, cells_int, cells_sl, cells_bool, AV.isCell]; done) | (simp; omega))) (fun _ _ => ?_)) | (with_reducible refine appD_V (by refine ⟨?_, ?_, ?_, ?_, ?_⟩ <;> (first | assumption | omega | exact St.has_add (by assumption) | (simp only [ins_has]; exact St.has_add (by assumption)) | (simp only [ins_has, fresh_ins, kill_ins, add_ins] at *; exact St.has_add (by assumption)) | (simp only [*, ins_has, has_full, St.has_add]; done) | (simp [-List.map_take, -List.map_drop, or_imp, forall_and, Seg.a, Vec.a, Leg.a, num, okEl, cells_agg, cells_int, cells_sl, cells_bool, AV.isCell]; done) | (simp; omega))) (fun _ _ => ?_))) | (with_reducible refine freshQ_i (fun _ _ => ?_)) | (with_reducible refine nilQ_i (fun _ _ => ?_)) | (with_reducible first | refine callH_use (hg) ?_ | refine pureQ_use (hg) ?_) | (with_reducible first | refine callH_use (head_16) ?_ | refine pureQ_use (head_16) ?_) | (with_reducible first | refine callH_use (hB) ?_ | refine pureQ_use (hB) ?_) | (with_reducible first | refine callH_use (hW) ?_ | refine pureQ_use (hW) ?_) | (with_reducible first | refine callH_use (hC) ?_ | refine pureQ_use (hC) ?_) | (with_reducible first | refine callH_use (hD) ?_ | refine pureQ_use (hD) ?_) | (with_reducible first | refine callH_use (hMx) ?_ | refine pureQ_use (hMx) ?_) | (with_reducible first | refine callH_use (hi1) ?_ | refine pureQ_use (hi1) ?_) | (with_reducible first | refine callH_use (hi2) ?_ | refine pureQ_use (hi2) ?_) | (with_reducible first | refine callH_use (hi3) ?_ | refine pureQ_use (hi3) ?_)))
        all_goals first | done | trace_state
      · clear hdb
        simp only [v_liverylaw16_SlotMore, ↓vD, vU, VE.ev, VE.evs, retvs, tupOf, grab, vfill, vbsl, eqCells, eqCell, veqs, veqs1, vmnx, AV.isCell, AV.isUndef, Nat.reduceEqDiff, Nat.reduceAdd, Nat.reduceSub, Nat.reduceLeDiff, Nat.reduceLT, reduceIte, reduceCtorEq, Nat.reduceBEq, k_app, k_slc1]
        (repeat' (first | (simp (config := { maxDischargeDepth := 16 }) only [*, iaa0, iaa1, e_rem, vX, Int.reduceLE, Int.reduceLT, Int.reduceGE, Int.reduceGT, Int.reduceBEq, Int.reduceBNe, Int.reduceAdd, Int.reduceSub, Int.reduceMul, Int.reduceNeg, ↓vD, vU, VE.ev, VE.evs, retvs, tupOf, grab, vfill, vbsl, eqCells, eqCell, veqs, veqs1, vmnx, AV.isCell, AV.isUndef, Nat.reduceEqDiff, Nat.reduceAdd, Nat.reduceSub, Nat.reduceLeDiff, Nat.reduceLT, reduceIte, reduceCtorEq, Nat.reduceBEq]) | (simp (disch := first | assumption | omega | exact Seg.len _ | exact Vec.len _ | exact Leg.len _ | exact num_len _ | exact rowA_len _ | exact rowA_len | exact rowT_len _ | exact rowT_len | exact Seg.len | exact Vec.len | exact Leg.len | exact num_len | exact AV.slen _ _ | rfl) only [iaa0, iaa1, e_rem, vP]) | (with_reducible (first | refine gsnd (fun _ => ?_) (fun _ => ?_) | refine csnd (fun _ => ?_) (fun _ => ?_) | refine gsd (fun _ => ?_) (fun _ => ?_) | refine csd (fun _ => ?_) (fun _ => ?_) | refine gsn (fun _ => ?_) (fun _ => ?_) | refine csn (fun _ => ?_) (fun _ => ?_))) | (with_reducible refine gs (fun _ => ?_) (fun _ => ?_)) | (with_reducible refine cs_ (fun _ => ?_) (fun _ => ?_)) | (with_reducible refine objQ_i (fun _ _ => ?_); (repeat (with_reducible refine imp_i (fun _ => ?_)))) | ((try with_reducible refine appK_a ?_); first | (with_reducible refine appD_F (by refine ⟨?_, ?_, ?_, ?_⟩ <;> (first | assumption | omega | exact St.has_add (by assumption) | (simp only [ins_has]; exact St.has_add (by assumption)) | (simp only [ins_has, fresh_ins, kill_ins, add_ins] at *; exact St.has_add (by assumption)) | (simp only [*, ins_has, has_full, St.has_add]; done) | (simp [-List.map_take, -List.map_drop, or_imp, forall_and, Seg.a, Vec.a, Leg.a, num, okEl, cells_agg, cells_int, cells_sl, cells_bool, AV.isCell]; done) | (simp; omega))) (fun _ _ => ?_)) | (with_reducible refine appD_V (by refine ⟨?_, ?_, ?_, ?_, ?_⟩ <;> (first | assumption | omega | exact St.has_add (by assumption) | (simp only [ins_has]; exact St.has_add (by assumption)) | (simp only [ins_has, fresh_ins, kill_ins, add_ins] at *; exact St.has_add (by assumption)) | (simp only [*, ins_has, has_full, St.has_add]; done) | (simp [-List.map_take, -List.map_drop, or_imp, forall_and, Seg.a, Vec.a, Leg.a, num, okEl, cells_agg, cells_int, cells_sl, cells_bool, AV.isCell]; done) | (simp; omega))) (fun _ _ => ?_))) | (with_reducible refine freshQ_i (fun _ _ => ?_)) | (with_reducible refine nilQ_i (fun _ _ => ?_)) | (with_reducible first | refine callH_use (hg) ?_ | refine pureQ_use (hg) ?_) | (with_reducible first | refine callH_use (head_16) ?_ | refine pureQ_use (head_16) ?_) | (with_reducible first | refine callH_use (hB) ?_ | refine pureQ_use (hB) ?_) | (with_reducible first | refine callH_use (hW) ?_ | refine pureQ_use (hW) ?_) | (with_reducible first | refine callH_use (hC) ?_ | refine pureQ_use (hC) ?_) | (with_reducible first | refine callH_use (hD) ?_ | refine pureQ_use (hD) ?_) | (with_reducible first | refine callH_use (hMx) ?_ | refine pureQ_use (hMx) ?_) | (with_reducible first | refine callH_use (hi1) ?_ | refine pureQ_use (hi1) ?_) | (with_reducible first | refine callH_use (hi2) ?_ | refine pureQ_use (hi2) ?_) | (with_reducible first | refine callH_use (hi3) ?_ | refine pureQ_use (hi3) ?_)))
        all_goals first | done | trace_state
    · clear hcb
      by_cases hl1 : 1 < l.length
      · obtain ⟨d1, d2⟩ := hdb hl1
        rw [d2] at hi3
        clear hdb d2
        simp only [v_liverylaw16_SlotMore, ↓vD, vU, VE.ev, VE.evs, retvs, tupOf, grab, vfill, vbsl, eqCells, eqCell, veqs, veqs1, vmnx, AV.isCell, AV.isUndef, Nat.reduceEqDiff, Nat.reduceAdd, Nat.reduceSub, Nat.reduceLeDiff, Nat.reduceLT, reduceIte, reduceCtorEq, Nat.reduceBEq, k_app, k_slc1]
        (repeat' (first | (simp (config := { maxDischargeDepth := 16 }) only [*, iaa0, iaa1, e_rem, e_slcH, vX, Int.reduceLE, Int.reduceLT, Int.reduceGE, Int.reduceGT, Int.reduceBEq, Int.reduceBNe, Int.reduceAdd, Int.reduceSub, Int.reduceMul, Int.reduceNeg, ↓vD, vU, VE.ev, VE.evs, retvs, tupOf, grab, vfill, vbsl, eqCells, eqCell, veqs, veqs1, vmnx, AV.isCell, AV.isUndef, Nat.reduceEqDiff, Nat.reduceAdd, Nat.reduceSub, Nat.reduceLeDiff, Nat.reduceLT, reduceIte, reduceCtorEq, Nat.reduceBEq]) | (simp (disch := first | assumption | omega | exact Seg.len _ | exact Vec.len _ | exact Leg.len _ | exact num_len _ | exact rowA_len _ | exact rowA_len | exact rowT_len _ | exact rowT_len | exact Seg.len | exact Vec.len | exact Leg.len | exact num_len | exact AV.slen _ _ | rfl) only [iaa0, iaa1, e_rem, e_slcH, vP]) | (with_reducible (first | refine gsnd (fun _ => ?_) (fun _ => ?_) | refine csnd (fun _ => ?_) (fun _ => ?_) | refine gsd (fun _ => ?_) (fun _ => ?_) | refine csd (fun _ => ?_) (fun _ => ?_) | refine gsn (fun _ => ?_) (fun _ => ?_) | refine csn (fun _ => ?_) (fun _ => ?_))) | (with_reducible refine gs (fun _ => ?_) (fun _ => ?_)) | (with_reducible refine cs_ (fun _ => ?_) (fun _ => ?_)) | (with_reducible refine objQ_i (fun _ _ => ?_); (repeat (with_reducible refine imp_i (fun _ => ?_)))) | ((try with_reducible refine appK_a ?_); first | (with_reducible refine appD_F (by refine ⟨?_, ?_, ?_, ?_⟩ <;> (first | assumption | omega | exact St.has_add (by assumption) | (simp only [ins_has]; exact St.has_add (by assumption)) | (simp only [ins_has, fresh_ins, kill_ins, add_ins] at *; exact St.has_add (by assumption)) | (simp only [*, ins_has, has_full, St.has_add]; done) | (simp [-List.map_take, -List.map_drop, or_imp, forall_and, Seg.a, Vec.a, Leg.a, num, okEl, cells_agg, cells_int, cells_sl, cells_bool, AV.isCell]; done) | (simp; omega))) (fun _ _ => ?_)) | (with_reducible refine appD_V (by refine ⟨?_, ?_, ?_, ?_, ?_⟩ <;> (first | assumption | omega | exact St.has_add (by assumption) | (simp only [ins_has]; exact St.has_add (by assumption)) | (simp only [ins_has, fresh_ins, kill_ins, add_ins] at *; exact St.has_add (by assumption)) | (simp only [*, ins_has, has_full, St.has_add]; done) | (simp [-List.map_take, -List.map_drop, or_imp, forall_and, Seg.a, Vec.a, Leg.a, num, okEl, cells_agg, cells_int, cells_sl, cells_bool, AV.isCell]; done) | (simp; omega))) (fun _ _ => ?_))) | (with_reducible refine freshQ_i (fun _ _ => ?_)) | (with_reducible refine nilQ_i (fun _ _ => ?_)) | (with_reducible first | refine callH_use (hg) ?_ | refine pureQ_use (hg) ?_) | (with_reducible first | refine callH_use (head_16) ?_ | refine pureQ_use (head_16) ?_) | (with_reducible first | refine callH_use (hB) ?_ | refine pureQ_use (hB) ?_) | (with_reducible first | refine callH_use (hW) ?_ | refine pureQ_use (hW) ?_) | (with_reducible first | refine callH_use (hC) ?_ | refine pureQ_use (hC) ?_) | (with_reducible first | refine callH_use (hD) ?_ | refine pureQ_use (hD) ?_) | (with_reducible first | refine callH_use (hMx) ?_ | refine pureQ_use (hMx) ?_) | (with_reducible first | refine callH_use (hi1) ?_ | refine pureQ_use (hi1) ?_) | (with_reducible first | refine callH_use (hi2) ?_ | refine pureQ_use (hi2) ?_) | (with_reducible first | refine callH_use (hi3) ?_ | refine pureQ_use (hi3) ?_)))
        all_goals first | done | trace_state
      · clear hdb
        simp only [v_liverylaw16_SlotMore, ↓vD, vU, VE.ev, VE.evs, retvs, tupOf, grab, vfill, vbsl, eqCells, eqCell, veqs, veqs1, vmnx, AV.isCell, AV.isUndef, Nat.reduceEqDiff, Nat.reduceAdd, Nat.reduceSub, Nat.reduceLeDiff, Nat.reduceLT, reduceIte, reduceCtorEq, Nat.reduceBEq, k_app, k_slc1]
        (repeat' (first | (simp (config := { maxDischargeDepth := 16 }) only [*, iaa0, iaa1, e_rem, vX, Int.reduceLE, Int.reduceLT, Int.reduceGE, Int.reduceGT, Int.reduceBEq, Int.reduceBNe, Int.reduceAdd, Int.reduceSub, Int.reduceMul, Int.reduceNeg, ↓vD, vU, VE.ev, VE.evs, retvs, tupOf, grab, vfill, vbsl, eqCells, eqCell, veqs, veqs1, vmnx, AV.isCell, AV.isUndef, Nat.reduceEqDiff, Nat.reduceAdd, Nat.reduceSub, Nat.reduceLeDiff, Nat.reduceLT, reduceIte, reduceCtorEq, Nat.reduceBEq]) | (simp (disch := first | assumption | omega | exact Seg.len _ | exact Vec.len _ | exact Leg.len _ | exact num_len _ | exact rowA_len _ | exact rowA_len | exact rowT_len _ | exact rowT_len | exact Seg.len | exact Vec.len | exact Leg.len | exact num_len | exact AV.slen _ _ | rfl) only [iaa0, iaa1, e_rem, vP]) | (with_reducible (first | refine gsnd (fun _ => ?_) (fun _ => ?_) | refine csnd (fun _ => ?_) (fun _ => ?_) | refine gsd (fun _ => ?_) (fun _ => ?_) | refine csd (fun _ => ?_) (fun _ => ?_) | refine gsn (fun _ => ?_) (fun _ => ?_) | refine csn (fun _ => ?_) (fun _ => ?_))) | (with_reducible refine gs (fun _ => ?_) (fun _ => ?_)) | (with_reducible refine cs_ (fun _ => ?_) (fun _ => ?_)) | (with_reducible refine objQ_i (fun _ _ => ?_); (repeat (with_reducible refine imp_i (fun _ => ?_)))) | ((try with_reducible refine appK_a ?_); first | (with_reducible refine appD_F (by refine ⟨?_, ?_, ?_, ?_⟩ <;> (first | assumption | omega | exact St.has_add (by assumption) | (simp only [ins_has]; exact St.has_add (by assumption)) | (simp only [ins_has, fresh_ins, kill_ins, add_ins] at *; exact St.has_add (by assumption)) | (simp only [*, ins_has, has_full, St.has_add]; done) | (simp [-List.map_take, -List.map_drop, or_imp, forall_and, Seg.a, Vec.a, Leg.a, num, okEl, cells_agg, cells_int, cells_sl, cells_bool, AV.isCell]; done) | (simp; omega))) (fun _ _ => ?_)) | (with_reducible refine appD_V (by refine ⟨?_, ?_, ?_, ?_, ?_⟩ <;> (first | assumption | omega | exact St.has_add (by assumption) | (simp only [ins_has]; exact St.has_add (by assumption)) | (simp only [ins_has, fresh_ins, kill_ins, add_ins] at *; exact St.has_add (by assumption)) | (simp only [*, ins_has, has_full, St.has_add]; done) | (simp [-List.map_take, -List.map_drop, or_imp, forall_and, Seg.a, Vec.a, Leg.a, num, okEl, cells_agg, cells_int, cells_sl, cells_bool, AV.isCell]; done) | (simp; omega))) (fun _ _ => ?_))) | (with_reducible refine freshQ_i (fun _ _ => ?_)) | (with_reducible refine nilQ_i (fun _ _ => ?_)) | (with_reducible first | refine callH_use (hg) ?_ | refine pureQ_use (hg) ?_) | (with_reducible first | refine callH_use (head_16) ?_ | refine pureQ_use (head_16) ?_) | (with_reducible first | refine callH_use (hB) ?_ | refine pureQ_use (hB) ?_) | (with_reducible first | refine callH_use (hW) ?_ | refine pureQ_use (hW) ?_) | (with_reducible first | refine callH_use (hC) ?_ | refine pureQ_use (hC) ?_) | (with_reducible first | refine callH_use (hD) ?_ | refine pureQ_use (hD) ?_) | (with_reducible first | refine callH_use (hMx) ?_ | refine pureQ_use (hMx) ?_) | (with_reducible first | refine callH_use (hi1) ?_ | refine pureQ_use (hi1) ?_) | (with_reducible first | refine callH_use (hi2) ?_ | refine pureQ_use (hi2) ?_) | (with_reducible first | refine callH_use (hi3) ?_ | refine pureQ_use (hi3) ?_)))
        all_goals first | done | trace_state
end Go.Proofs.Ytddbnncimggogaa.V
end
section
set_option linter.unusedSimpArgs false
set_option linter.unusedVariables false
/- The rows that SlotCut and SlotMore are handed. -/
namespace Go.Proofs.Ytddbnncimggogaa.V
open Go Go.ChangeShapes Go.WideShapes Go.ChangeAt Go.RowKit Go.Deep
set_option maxRecDepth 100000
theorem u8_of {n : Int} (h : (Lit.int .u8 n).wf = true) : U8 n := by
  simp [Lit.wf] at h
  unfold U8
  first | exact h | omega | (have := h; simp [IntKind.wrap, IntKind.lo, IntKind.hi] at this; omega)
theorem opn_RowX : Opn 64 5 RowX.a wfRowX :=
  opn_of (OpC.mono (opc_struct (ps := [(2, _), (1, _), (2, _)]) Try.underlying64 (by kernel_rfl) ⟨⟨rfl, by kernel_rfl, opc_of opn_win⟩, ⟨rfl, by kernel_rfl, opc_sl Try.underlying61 (by kernel_rfl) (by decide) opn_leg⟩,
    ⟨rfl, by kernel_rfl, opc_array (m := 2) (n := 1) Try.underlying62 (by kernel_rfl) (by kernel_rfl) (opc_int (by kernel_rfl))⟩, trivial⟩) (by
    rintro l ⟨_, _, rfl, ⟨w, rfl, hw⟩, _, _, rfl, ⟨ls, rfl, hl⟩, _, _, rfl, ⟨_, _, rfl, ⟨a, rfl, ha⟩, _, _, rfl, ⟨b, rfl, hb⟩, rfl⟩, rfl⟩
    exact ⟨⟨w, ls, a, b⟩, rfl, hw, hl, u8_of ha, u8_of hb⟩))
theorem open_RowX {H : Type} {enc : TypeId × Value → H} {w : World} {base base' : Nat} {spare : Nat → Bool} {held : Bool} {v : Value} {d : DataW H} {ps : List MemPlace} {r : Reach} (hval : Value.okWide Try.prog w r base' 64 v) (h : DataW.Trod enc Try.prog w base spare held 64 v d ps) :
    ∃ x : RowX, Rep (imW w) x.a v ∧ wfRowX x := open_agg (g := fun x : RowX => [.int .i64 x.w.m, .int .i64 x.w.c, .sl (x.l.map Leg.a) .no, .int .u8 x.b0, .int .u8 x.b1]) Try.underlying64 opn_RowX hval h
end Go.Proofs.Ytddbnncimggogaa.V
end
