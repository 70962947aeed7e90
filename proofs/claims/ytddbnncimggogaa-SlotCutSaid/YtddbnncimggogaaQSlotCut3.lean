/- Texts of this claim, joined: Cslot3, Cslot2, VXliveryref02, Cref, Cref2, VXliveryref03, Cref3, Ccalc2, CsoSeg, CspSeg, CsqSeg, Crle2, Crle3, Ccalc3, Ccalc4, Cref4, Ccalc5, Pcalc, Pcalc2, Pslot2, Cslot4, VXliveryref16, VXliverylaw16, Cslot5, VOpn, VLp, Cslot6, Oslot. -/
import Derived.Test.YtddbnncimggogaaQSlotCut2
import Derived.Test.YtddbnncimggogaaQSlotCut1
import Derived.Test.YtddbnncimggogaaProg
import Derived.OpenShut
section
set_option linter.unusedSimpArgs false
set_option linter.unusedVariables false
/- slot.low and its iterator. -/
namespace Go.Proofs.Ytddbnncimggogaa.V
open Go Go.Proofs
set_option maxRecDepth 100000
set_option maxHeartbeats 4000000
theorem low_c (f : List Seg) (w v : Vec) (t : Tok) : VPure Try.prog 83 [.sl (f.map Seg.a) t, w.a, v.a] (.clo 128 [] [.iptr w.a 0, .iptr (.sl (f.map Seg.a) t) 0, .iptr v.a 0]) := fun Z st => by
  have h : VCalls Try.prog Z 83 [.sl (f.map Seg.a) t, w.a, v.a] st (fun r s => ∃ bf bw bv, st.objs bf = none ∧ st.objs bw = none ∧ st.objs bv = none ∧ ¬ bf = bw ∧ ¬ bf = bv ∧ ¬ bw = bv ∧ r = .clo 128 [] [.ptr bw 0, .ptr bf 0, .ptr bv 0] ∧
      s = ((st.ins bf (.cells [.sl (f.map Seg.a) t])).ins bw (.cells [.int .i64 w.m, .int .i64 w.c])).ins bv (.cells [.int .i64 v.m, .int .i64 v.c])) := by
    refine VCalls.of v_slot_low_ok (Nat.le_of_ble_eq_true rfl) ?_
    simp only [v_slot_low, ↓vD, vU, VE.ev, VE.evs, retvs, tupOf, grab, vfill, vbsl, eqCells, eqCell, veqs, veqs1, vmnx, AV.isCell, AV.isUndef, Nat.reduceEqDiff, Nat.reduceAdd, Nat.reduceSub, Nat.reduceLeDiff, Nat.reduceLT, reduceIte, reduceCtorEq, Nat.reduceBEq, k_app, k_slc1]
    (repeat' (first | (simp (config := { maxDischargeDepth := 16 }) only [*, Vec.a, vX, Int.reduceLE, Int.reduceLT, Int.reduceGE, Int.reduceGT, Int.reduceBEq, Int.reduceBNe, Int.reduceAdd, Int.reduceSub, Int.reduceMul, Int.reduceNeg, ↓vD, vU, VE.ev, VE.evs, retvs, tupOf, grab, vfill, vbsl, eqCells, eqCell, veqs, veqs1, vmnx, AV.isCell, AV.isUndef, Nat.reduceEqDiff, Nat.reduceAdd, Nat.reduceSub, Nat.reduceLeDiff, Nat.reduceLT, reduceIte, reduceCtorEq, Nat.reduceBEq]) | (simp (disch := first | assumption | omega | exact Seg.len _ | exact Vec.len _ | exact Leg.len _ | exact num_len _ | exact rowA_len _ | exact rowA_len | exact rowT_len _ | exact rowT_len | exact Seg.len | exact Vec.len | exact Leg.len | exact num_len | exact AV.slen _ _ | rfl) only [Vec.a, vP]) | (with_reducible (first | refine gsnd (fun _ => ?_) (fun _ => ?_) | refine csnd (fun _ => ?_) (fun _ => ?_) | refine gsd (fun _ => ?_) (fun _ => ?_) | refine csd (fun _ => ?_) (fun _ => ?_) | refine gsn (fun _ => ?_) (fun _ => ?_) | refine csn (fun _ => ?_) (fun _ => ?_))) | (with_reducible refine gs (fun _ => ?_) (fun _ => ?_)) | (with_reducible refine cs_ (fun _ => ?_) (fun _ => ?_)) | (with_reducible refine objQ_i (fun _ _ => ?_); (repeat (with_reducible refine imp_i (fun _ => ?_)))) | ((try with_reducible refine appK_a ?_); first | (with_reducible refine appD_F (by refine ⟨?_, ?_, ?_, ?_⟩ <;> (first | assumption | omega | exact St.has_add (by assumption) | (simp only [ins_has]; exact St.has_add (by assumption)) | (simp only [ins_has, fresh_ins, kill_ins, add_ins] at *; exact St.has_add (by assumption)) | (simp only [*, ins_has, has_full, St.has_add]; done) | (simp [-List.map_take, -List.map_drop, or_imp, forall_and, Seg.a, Vec.a, Leg.a, num, okEl, cells_agg, cells_int, cells_sl, cells_bool, AV.isCell]; done) | (simp; omega))) (fun _ _ => ?_)) | (with_reducible refine appD_V (by refine ⟨?_, ?_, ?_, ?_, ?_⟩ <;> (first | assumption | omega | exact St.has_add (by assumption) | (simp only [ins_has]; exact St.has_add (by assumption)) | (simp only [ins_has, fresh_ins, kill_ins, add_ins] at *; exact St.has_add (by assumption)) | (simp only [*, ins_has, has_full, St.has_add]; done) | (simp [-List.map_take, -List.map_drop, or_imp, forall_and, Seg.a, Vec.a, Leg.a, num, okEl, cells_agg, cells_int, cells_sl, cells_bool, AV.isCell]; done) | (simp; omega))) (fun _ _ => ?_))) | (with_reducible refine freshQ_i (fun _ _ => ?_)) | (with_reducible refine nilQ_i (fun _ _ => ?_))))
    rename_i bf hf bw hw n1 n2 bv hv n3 n4 n5 n6
    exact ⟨_, St.le.refl _, bf, bw, bv, hf, hw, hv, n2, n4, n6, rfl, rfl⟩
  refine h.wk ?_
  rintro _ _ ⟨bf, bw, bv, hf, hw, hv, n1, n2, n3, rfl, rfl⟩
  have n1' : ¬ bw = bf := fun e => n1 e.symm
  have n2' : ¬ bv = bf := fun e => n2 e.symm
  have n3' : ¬ bv = bw := fun e => n3 e.symm
  (refine ⟨_, st, (Wk.fz _ (b := bw) (x := w.a) (by first | (simp only [St.ins, St.del, *, if_true, if_false, eq_self, not_false_eq_true, ite_true, ite_false]; first | done | rfl) | (simp [St.ins, St.del, *]; done) | (simp [St.ins, St.del, *]; rfl)) (by first | rfl | simp [okEl, AV.cells, AV.isCell]) (by first | exact Nat.zero_lt_succ _ | simp [AV.cells]) _).trans ((Wk.fz _ (b := bf) (x := .sl (f.map Seg.a) t) (by first | (simp only [St.ins, St.del, *, if_true, if_false, eq_self, not_false_eq_true, ite_true, ite_false]; first | done | rfl) | (simp [St.ins, St.del, *]; done) | (simp [St.ins, St.del, *]; rfl)) (by first | rfl | simp [okEl, AV.cells, AV.isCell]) (by first | exact Nat.zero_lt_succ _ | simp [AV.cells]) _).trans ((Wk.fz _ (b := bv) (x := v.a) (by first | (simp only [St.ins, St.del, *, if_true, if_false, eq_self, not_false_eq_true, ite_true, ite_false]; first | done | rfl) | (simp [St.ins, St.del, *]; done) | (simp [St.ins, St.del, *]; rfl)) (by first | rfl | simp [okEl, AV.cells, AV.isCell]) (by first | exact Nat.zero_lt_succ _ | simp [AV.cells]) _).trans (Wk.le (by (refine ⟨fun i o e => ?_, fun _ h => h⟩; revert e; simp only [St.ins, St.del, add_objs, kill_objs]; (repeat' split); all_goals (first | exact id | (intros; contradiction) | (intros; subst_vars; contradiction) | (intros; simp_all; done) | (intros; subst_vars; simp_all; done)))) _))), ?_⟩; simp only [AV.sub, AV.subL, *, if_true, if_false, eq_self, ite_true, ite_false])
  try exact ⟨trivial, trivial⟩
theorem low_it (f : List Seg) (hn : f.length ≤ 1000000000) (w v : Vec) (t : Tok) : VIter Try.prog 128 [] [.iptr w.a 0, .iptr (.sl (f.map Seg.a) t) 0, .iptr v.a 0] ((lowF f w v).map fun b => [b.a]) := by
  intro Y l I E S0 h0 hy
  obtain ⟨L, hL⟩ : ∃ L, lowF f w v = L := ⟨_, rfl⟩
  simp only [hL, List.length_map, List.getElem_map] at hy ⊢
  have hAt := At_v f (by omega) t w.m
  obtain ⟨u0, hu0⟩ : ∃ u, atF f w.m = u := ⟨_, rfl⟩
  rw [hu0] at hAt
  have HL : Hid (L = lowGo w v f w.m u0) := ⟨by rw [← hL, ← hu0]; rfl⟩
  have HY : Hid (∀ k it r, L.drop k = it :: r → ∀ S, I k S → VYield Try.prog Y l [it.a] S (YY I E k)) := ⟨fun k it r h => by
    obtain ⟨hk, rfl, _⟩ := drop_cons h
    exact hy k hk⟩
  have hLE := LE_v v.m v.c
  clear hL hu0 hy
  refine VCalls.of v_slot_low_1_ok (Nat.le_of_ble_eq_true rfl) ?_
  simp only [v_slot_low_1, List.nil_append, List.cons_append, ↓vD, vU, VE.ev, VE.evs, retvs, tupOf, grab, vfill, vbsl, eqCells, eqCell, veqs, veqs1, vmnx, AV.isCell, AV.isUndef, Nat.reduceEqDiff, Nat.reduceAdd, Nat.reduceSub, Nat.reduceLeDiff, Nat.reduceLT, reduceIte, reduceCtorEq, Nat.reduceBEq, k_app, k_slc1]
  (repeat' (first | (simp (config := { maxDischargeDepth := 16 }) only [*, num, Vec.a, vX, Int.reduceLE, Int.reduceLT, Int.reduceGE, Int.reduceGT, Int.reduceBEq, Int.reduceBNe, Int.reduceAdd, Int.reduceSub, Int.reduceMul, Int.reduceNeg, ↓vD, vU, VE.ev, VE.evs, retvs, tupOf, grab, vfill, vbsl, eqCells, eqCell, veqs, veqs1, vmnx, AV.isCell, AV.isUndef, Nat.reduceEqDiff, Nat.reduceAdd, Nat.reduceSub, Nat.reduceLeDiff, Nat.reduceLT, reduceIte, reduceCtorEq, Nat.reduceBEq]) | (simp (disch := first | assumption | omega | exact Seg.len _ | exact Vec.len _ | exact Leg.len _ | exact num_len _ | exact rowA_len _ | exact rowA_len | exact rowT_len _ | exact rowT_len | exact Seg.len | exact Vec.len | exact Leg.len | exact num_len | exact AV.slen _ _ | rfl) only [num, Vec.a, vP]) | (with_reducible (first | refine gsnd (fun _ => ?_) (fun _ => ?_) | refine csnd (fun _ => ?_) (fun _ => ?_) | refine gsd (fun _ => ?_) (fun _ => ?_) | refine csd (fun _ => ?_) (fun _ => ?_) | refine gsn (fun _ => ?_) (fun _ => ?_) | refine csn (fun _ => ?_) (fun _ => ?_))) | (with_reducible refine gs (fun _ => ?_) (fun _ => ?_)) | (with_reducible refine cs_ (fun _ => ?_) (fun _ => ?_)) | (with_reducible refine objQ_i (fun _ _ => ?_); (repeat (with_reducible refine imp_i (fun _ => ?_)))) | ((try with_reducible refine appK_a ?_); first | (with_reducible refine appD_F (by refine ⟨?_, ?_, ?_, ?_⟩ <;> (first | assumption | omega | exact St.has_add (by assumption) | (simp only [ins_has]; exact St.has_add (by assumption)) | (simp only [ins_has, fresh_ins, kill_ins, add_ins] at *; exact St.has_add (by assumption)) | (simp only [*, ins_has, has_full, St.has_add]; done) | (simp [-List.map_take, -List.map_drop, or_imp, forall_and, Seg.a, Vec.a, Leg.a, num, okEl, cells_agg, cells_int, cells_sl, cells_bool, AV.isCell]; done) | (simp; omega))) (fun _ _ => ?_)) | (with_reducible refine appD_V (by refine ⟨?_, ?_, ?_, ?_, ?_⟩ <;> (first | assumption | omega | exact St.has_add (by assumption) | (simp only [ins_has]; exact St.has_add (by assumption)) | (simp only [ins_has, fresh_ins, kill_ins, add_ins] at *; exact St.has_add (by assumption)) | (simp only [*, ins_has, has_full, St.has_add]; done) | (simp [-List.map_take, -List.map_drop, or_imp, forall_and, Seg.a, Vec.a, Leg.a, num, okEl, cells_agg, cells_int, cells_sl, cells_bool, AV.isCell]; done) | (simp; omega))) (fun _ _ => ?_))) | (with_reducible refine freshQ_i (fun _ _ => ?_)) | (with_reducible refine nilQ_i (fun _ _ => ?_)) | (with_reducible first | refine callH_use (hAt) ?_ | refine pureQ_use (hAt) ?_)))
  rename_i b6 h6
  refine loopf_of (len := f.length) (by simp only [asgL, dsts, List.cons_append, List.nil_append, List.append_nil]; rfl) (by simp only [noR, Bool.and_true, Bool.and_false]; rfl) (by omega) (fun k fr s => ∃ (j : Nat) (p : Int) (u : Vec) (S : St), s = S.ins b6 (.cells [.int .i64 u.m, .int .i64 u.c])
    ∧ fr.t 17 = .int .i64 k ∧ fr.t 5 = .int .i64 p ∧ I j S ∧ S.objs b6 = none ∧ j ≤ L.length ∧ Hid (L.drop j = lowGo w v (f.drop k) p u)) ?_ ?_ ?_
  · exact ⟨0, w.m, u0, S0, rfl, by simp [↓vD, vU, VE.ev, VE.evs, retvs, tupOf, grab, vfill, vbsl, eqCells, eqCell, veqs, veqs1, vmnx, AV.isCell, AV.isUndef, Nat.reduceEqDiff, Nat.reduceAdd, Nat.reduceSub, Nat.reduceLeDiff, Nat.reduceLT, reduceIte, reduceCtorEq, Nat.reduceBEq, k_app, k_slc1], by simp [↓vD, vU, VE.ev, VE.evs, retvs, tupOf, grab, vfill, vbsl, eqCells, eqCell, veqs, veqs1, vmnx, AV.isCell, AV.isUndef, Nat.reduceEqDiff, Nat.reduceAdd, Nat.reduceSub, Nat.reduceLeDiff, Nat.reduceLT, reduceIte, reduceCtorEq, Nat.reduceBEq, k_app, k_slc1], h0, h6, by omega, ⟨by rw [HL.out]; rfl⟩⟩
  · rintro k fr s hk hwr hfr hd ⟨j, p, u, S, rfl, h17, h5, hI, hS6, hj, HK⟩
    obtain ⟨x, hx⟩ : ∃ x, f[k] = x := ⟨_, rfl⟩
    have hdr : f.drop k = x :: f.drop (k + 1) := by rw [List.drop_eq_getElem_cons hk, hx]
    have hK := HK.out
    rw [hdr, lowGo] at hK
    by_cases hskip : x.t ≤ w.m ∨ w.c ≤ x.t
    · have HN : Hid (L.drop j = lowGo w v (f.drop (k + 1)) p u) := ⟨by rw [hK, if_pos hskip]⟩
      clear hK hdr HK
      (repeat' (first | (simp (config := { maxDischargeDepth := 16 }) only [*, num, Vec.a, Seg.a, vX, Int.reduceLE, Int.reduceLT, Int.reduceGE, Int.reduceGT, Int.reduceBEq, Int.reduceBNe, Int.reduceAdd, Int.reduceSub, Int.reduceMul, Int.reduceNeg, ↓vD, vU, VE.ev, VE.evs, retvs, tupOf, grab, vfill, vbsl, eqCells, eqCell, veqs, veqs1, vmnx, AV.isCell, AV.isUndef, Nat.reduceEqDiff, Nat.reduceAdd, Nat.reduceSub, Nat.reduceLeDiff, Nat.reduceLT, reduceIte, reduceCtorEq, Nat.reduceBEq]) | (simp (disch := first | assumption | omega | exact Seg.len _ | exact Vec.len _ | exact Leg.len _ | exact num_len _ | exact rowA_len _ | exact rowA_len | exact rowT_len _ | exact rowT_len | exact Seg.len | exact Vec.len | exact Leg.len | exact num_len | exact AV.slen _ _ | rfl) only [num, Vec.a, Seg.a, vP]) | (with_reducible (first | refine gsnd (fun _ => ?_) (fun _ => ?_) | refine csnd (fun _ => ?_) (fun _ => ?_) | refine gsd (fun _ => ?_) (fun _ => ?_) | refine csd (fun _ => ?_) (fun _ => ?_) | refine gsn (fun _ => ?_) (fun _ => ?_) | refine csn (fun _ => ?_) (fun _ => ?_))) | (with_reducible refine gs (fun _ => ?_) (fun _ => ?_)) | (with_reducible refine cs_ (fun _ => ?_) (fun _ => ?_)) | (with_reducible refine objQ_i (fun _ _ => ?_); (repeat (with_reducible refine imp_i (fun _ => ?_)))) | ((try with_reducible refine appK_a ?_); first | (with_reducible refine appD_F (by refine ⟨?_, ?_, ?_, ?_⟩ <;> (first | assumption | omega | exact St.has_add (by assumption) | (simp only [ins_has]; exact St.has_add (by assumption)) | (simp only [ins_has, fresh_ins, kill_ins, add_ins] at *; exact St.has_add (by assumption)) | (simp only [*, ins_has, has_full, St.has_add]; done) | (simp [-List.map_take, -List.map_drop, or_imp, forall_and, Seg.a, Vec.a, Leg.a, num, okEl, cells_agg, cells_int, cells_sl, cells_bool, AV.isCell]; done) | (simp; omega))) (fun _ _ => ?_)) | (with_reducible refine appD_V (by refine ⟨?_, ?_, ?_, ?_, ?_⟩ <;> (first | assumption | omega | exact St.has_add (by assumption) | (simp only [ins_has]; exact St.has_add (by assumption)) | (simp only [ins_has, fresh_ins, kill_ins, add_ins] at *; exact St.has_add (by assumption)) | (simp only [*, ins_has, has_full, St.has_add]; done) | (simp [-List.map_take, -List.map_drop, or_imp, forall_and, Seg.a, Vec.a, Leg.a, num, okEl, cells_agg, cells_int, cells_sl, cells_bool, AV.isCell]; done) | (simp; omega))) (fun _ _ => ?_))) | (with_reducible refine freshQ_i (fun _ _ => ?_)) | (with_reducible refine nilQ_i (fun _ _ => ?_)) | (with_reducible first | refine callH_use (hLE _ _) ?_ | refine pureQ_use (hLE _ _) ?_)))
      all_goals first | exact ⟨_, by (refine ⟨fun i o e => ?_, fun _ h => h⟩; revert e; simp only [St.ins, St.del, add_objs, kill_objs]; (repeat' split); all_goals (first | exact id | (intros; contradiction) | (intros; subst_vars; contradiction) | (intros; simp_all; done) | (intros; subst_vars; simp_all; done))), j, p, u, S, rfl, rfl, hI, hS6, hj, HN⟩ | omega
    · rw [if_neg hskip] at hK
      cases hle : (decide (v.m ≤ u.m) && decide (v.c ≤ u.c)) with
      | true =>
        have HN : Hid (L.drop j = lowGo w v (f.drop (k + 1)) x.t x.v) := ⟨by rw [hK, if_pos (show leW v u = true from hle)]⟩
        clear hK hdr HK
        (repeat' (first | (simp (config := { maxDischargeDepth := 16 }) only [*, num, Vec.a, Seg.a, vX, Int.reduceLE, Int.reduceLT, Int.reduceGE, Int.reduceGT, Int.reduceBEq, Int.reduceBNe, Int.reduceAdd, Int.reduceSub, Int.reduceMul, Int.reduceNeg, ↓vD, vU, VE.ev, VE.evs, retvs, tupOf, grab, vfill, vbsl, eqCells, eqCell, veqs, veqs1, vmnx, AV.isCell, AV.isUndef, Nat.reduceEqDiff, Nat.reduceAdd, Nat.reduceSub, Nat.reduceLeDiff, Nat.reduceLT, reduceIte, reduceCtorEq, Nat.reduceBEq]) | (simp (disch := first | assumption | omega | exact Seg.len _ | exact Vec.len _ | exact Leg.len _ | exact num_len _ | exact rowA_len _ | exact rowA_len | exact rowT_len _ | exact rowT_len | exact Seg.len | exact Vec.len | exact Leg.len | exact num_len | exact AV.slen _ _ | rfl) only [num, Vec.a, Seg.a, vP]) | (with_reducible (first | refine gsnd (fun _ => ?_) (fun _ => ?_) | refine csnd (fun _ => ?_) (fun _ => ?_) | refine gsd (fun _ => ?_) (fun _ => ?_) | refine csd (fun _ => ?_) (fun _ => ?_) | refine gsn (fun _ => ?_) (fun _ => ?_) | refine csn (fun _ => ?_) (fun _ => ?_))) | (with_reducible refine gs (fun _ => ?_) (fun _ => ?_)) | (with_reducible refine cs_ (fun _ => ?_) (fun _ => ?_)) | (with_reducible refine objQ_i (fun _ _ => ?_); (repeat (with_reducible refine imp_i (fun _ => ?_)))) | ((try with_reducible refine appK_a ?_); first | (with_reducible refine appD_F (by refine ⟨?_, ?_, ?_, ?_⟩ <;> (first | assumption | omega | exact St.has_add (by assumption) | (simp only [ins_has]; exact St.has_add (by assumption)) | (simp only [ins_has, fresh_ins, kill_ins, add_ins] at *; exact St.has_add (by assumption)) | (simp only [*, ins_has, has_full, St.has_add]; done) | (simp [-List.map_take, -List.map_drop, or_imp, forall_and, Seg.a, Vec.a, Leg.a, num, okEl, cells_agg, cells_int, cells_sl, cells_bool, AV.isCell]; done) | (simp; omega))) (fun _ _ => ?_)) | (with_reducible refine appD_V (by refine ⟨?_, ?_, ?_, ?_, ?_⟩ <;> (first | assumption | omega | exact St.has_add (by assumption) | (simp only [ins_has]; exact St.has_add (by assumption)) | (simp only [ins_has, fresh_ins, kill_ins, add_ins] at *; exact St.has_add (by assumption)) | (simp only [*, ins_has, has_full, St.has_add]; done) | (simp [-List.map_take, -List.map_drop, or_imp, forall_and, Seg.a, Vec.a, Leg.a, num, okEl, cells_agg, cells_int, cells_sl, cells_bool, AV.isCell]; done) | (simp; omega))) (fun _ _ => ?_))) | (with_reducible refine freshQ_i (fun _ _ => ?_)) | (with_reducible refine nilQ_i (fun _ _ => ?_)) | (with_reducible first | refine callH_use (hLE _ _) ?_ | refine pureQ_use (hLE _ _) ?_)))
        exact ⟨_, by (refine ⟨fun i o e => ?_, fun _ h => h⟩; revert e; simp only [St.ins, St.del, add_objs, kill_objs]; (repeat' split); all_goals (first | exact id | (intros; contradiction) | (intros; subst_vars; contradiction) | (intros; simp_all; done) | (intros; subst_vars; simp_all; done))), j, x.t, x.v, S, rfl, rfl, hI, hS6, hj, HN⟩
      | false =>
        have HN : Hid (L.drop j = ⟨p, x.t⟩ :: lowGo w v (f.drop (k + 1)) x.t x.v) := ⟨by rw [hK, if_neg (by unfold leW; rw [hle]; simp)]⟩
        clear hK hdr HK
        (repeat' (first | (simp (config := { maxDischargeDepth := 16 }) only [*, num, Vec.a, Seg.a, vX, Int.reduceLE, Int.reduceLT, Int.reduceGE, Int.reduceGT, Int.reduceBEq, Int.reduceBNe, Int.reduceAdd, Int.reduceSub, Int.reduceMul, Int.reduceNeg, ↓vD, vU, VE.ev, VE.evs, retvs, tupOf, grab, vfill, vbsl, eqCells, eqCell, veqs, veqs1, vmnx, AV.isCell, AV.isUndef, Nat.reduceEqDiff, Nat.reduceAdd, Nat.reduceSub, Nat.reduceLeDiff, Nat.reduceLT, reduceIte, reduceCtorEq, Nat.reduceBEq]) | (simp (disch := first | assumption | omega | exact Seg.len _ | exact Vec.len _ | exact Leg.len _ | exact num_len _ | exact rowA_len _ | exact rowA_len | exact rowT_len _ | exact rowT_len | exact Seg.len | exact Vec.len | exact Leg.len | exact num_len | exact AV.slen _ _ | rfl) only [num, Vec.a, Seg.a, vP]) | (with_reducible (first | refine gsnd (fun _ => ?_) (fun _ => ?_) | refine csnd (fun _ => ?_) (fun _ => ?_) | refine gsd (fun _ => ?_) (fun _ => ?_) | refine csd (fun _ => ?_) (fun _ => ?_) | refine gsn (fun _ => ?_) (fun _ => ?_) | refine csn (fun _ => ?_) (fun _ => ?_))) | (with_reducible refine gs (fun _ => ?_) (fun _ => ?_)) | (with_reducible refine cs_ (fun _ => ?_) (fun _ => ?_)) | (with_reducible refine objQ_i (fun _ _ => ?_); (repeat (with_reducible refine imp_i (fun _ => ?_)))) | ((try with_reducible refine appK_a ?_); first | (with_reducible refine appD_F (by refine ⟨?_, ?_, ?_, ?_⟩ <;> (first | assumption | omega | exact St.has_add (by assumption) | (simp only [ins_has]; exact St.has_add (by assumption)) | (simp only [ins_has, fresh_ins, kill_ins, add_ins] at *; exact St.has_add (by assumption)) | (simp only [*, ins_has, has_full, St.has_add]; done) | (simp [-List.map_take, -List.map_drop, or_imp, forall_and, Seg.a, Vec.a, Leg.a, num, okEl, cells_agg, cells_int, cells_sl, cells_bool, AV.isCell]; done) | (simp; omega))) (fun _ _ => ?_)) | (with_reducible refine appD_V (by refine ⟨?_, ?_, ?_, ?_, ?_⟩ <;> (first | assumption | omega | exact St.has_add (by assumption) | (simp only [ins_has]; exact St.has_add (by assumption)) | (simp only [ins_has, fresh_ins, kill_ins, add_ins] at *; exact St.has_add (by assumption)) | (simp only [*, ins_has, has_full, St.has_add]; done) | (simp [-List.map_take, -List.map_drop, or_imp, forall_and, Seg.a, Vec.a, Leg.a, num, okEl, cells_agg, cells_int, cells_sl, cells_bool, AV.isCell]; done) | (simp; omega))) (fun _ _ => ?_))) | (with_reducible refine freshQ_i (fun _ _ => ?_)) | (with_reducible refine nilQ_i (fun _ _ => ?_)) | (with_reducible first | refine callH_use (hLE _ _) ?_ | refine pureQ_use (hLE _ _) ?_)))
        rename_i b8 h8 n86 n68
        refine yieldH_then (((HY.out j _ _ HN.out S hI).frame b6 _ hS6).frame b8 _ (by simp only [ins_objs, *, if_false])) rfl ?_
        rintro _ _ ⟨_, ⟨s0, hyy, q6, rfl⟩, q8, rfl⟩
        obtain ⟨hj2, _, hd2⟩ := drop_cons HN.out
        have q8' : s0.objs b8 = none := by simpa only [ins_objs, n86, if_false] using q8
        rcases hyy with ⟨rfl, S', hI', hle'⟩ | ⟨rfl, S', hE', hle'⟩
        · have HN2 : Hid (L.drop (j + 1) = lowGo w v (f.drop (k + 1)) x.t x.v) := ⟨hd2⟩
          clear HN hd2
          (repeat' (first | (simp (config := { maxDischargeDepth := 16 }) only [*, num, Vec.a, Seg.a, vX, Int.reduceLE, Int.reduceLT, Int.reduceGE, Int.reduceGT, Int.reduceBEq, Int.reduceBNe, Int.reduceAdd, Int.reduceSub, Int.reduceMul, Int.reduceNeg, ↓vD, vU, VE.ev, VE.evs, retvs, tupOf, grab, vfill, vbsl, eqCells, eqCell, veqs, veqs1, vmnx, AV.isCell, AV.isUndef, Nat.reduceEqDiff, Nat.reduceAdd, Nat.reduceSub, Nat.reduceLeDiff, Nat.reduceLT, reduceIte, reduceCtorEq, Nat.reduceBEq]) | (simp (disch := first | assumption | omega | exact Seg.len _ | exact Vec.len _ | exact Leg.len _ | exact num_len _ | exact rowA_len _ | exact rowA_len | exact rowT_len _ | exact rowT_len | exact Seg.len | exact Vec.len | exact Leg.len | exact num_len | exact AV.slen _ _ | rfl) only [num, Vec.a, Seg.a, vP]) | (with_reducible (first | refine gsnd (fun _ => ?_) (fun _ => ?_) | refine csnd (fun _ => ?_) (fun _ => ?_) | refine gsd (fun _ => ?_) (fun _ => ?_) | refine csd (fun _ => ?_) (fun _ => ?_) | refine gsn (fun _ => ?_) (fun _ => ?_) | refine csn (fun _ => ?_) (fun _ => ?_))) | (with_reducible refine gs (fun _ => ?_) (fun _ => ?_)) | (with_reducible refine cs_ (fun _ => ?_) (fun _ => ?_)) | (with_reducible refine objQ_i (fun _ _ => ?_); (repeat (with_reducible refine imp_i (fun _ => ?_)))) | ((try with_reducible refine appK_a ?_); first | (with_reducible refine appD_F (by refine ⟨?_, ?_, ?_, ?_⟩ <;> (first | assumption | omega | exact St.has_add (by assumption) | (simp only [ins_has]; exact St.has_add (by assumption)) | (simp only [ins_has, fresh_ins, kill_ins, add_ins] at *; exact St.has_add (by assumption)) | (simp only [*, ins_has, has_full, St.has_add]; done) | (simp [-List.map_take, -List.map_drop, or_imp, forall_and, Seg.a, Vec.a, Leg.a, num, okEl, cells_agg, cells_int, cells_sl, cells_bool, AV.isCell]; done) | (simp; omega))) (fun _ _ => ?_)) | (with_reducible refine appD_V (by refine ⟨?_, ?_, ?_, ?_, ?_⟩ <;> (first | assumption | omega | exact St.has_add (by assumption) | (simp only [ins_has]; exact St.has_add (by assumption)) | (simp only [ins_has, fresh_ins, kill_ins, add_ins] at *; exact St.has_add (by assumption)) | (simp only [*, ins_has, has_full, St.has_add]; done) | (simp [-List.map_take, -List.map_drop, or_imp, forall_and, Seg.a, Vec.a, Leg.a, num, okEl, cells_agg, cells_int, cells_sl, cells_bool, AV.isCell]; done) | (simp; omega))) (fun _ _ => ?_))) | (with_reducible refine freshQ_i (fun _ _ => ?_)) | (with_reducible refine nilQ_i (fun _ _ => ?_)) | (with_reducible first | refine callH_use (hLE _ _) ?_ | refine pureQ_use (hLE _ _) ?_)))
          exact ⟨_, (St.le.ins hle' b6 _).trans (by (refine ⟨fun i o e => ?_, fun _ h => h⟩; revert e; simp only [St.ins, St.del, add_objs, kill_objs]; (repeat' split); all_goals (first | exact id | (intros; contradiction) | (intros; subst_vars; contradiction) | (intros; simp_all; done) | (intros; subst_vars; simp_all; done)))), j + 1, x.t, x.v, S', rfl, rfl, hI', hle'.none q6, by omega, HN2⟩
        · (repeat' (first | (simp (config := { maxDischargeDepth := 16 }) only [*, num, Vec.a, Seg.a, vX, Int.reduceLE, Int.reduceLT, Int.reduceGE, Int.reduceGT, Int.reduceBEq, Int.reduceBNe, Int.reduceAdd, Int.reduceSub, Int.reduceMul, Int.reduceNeg, ↓vD, vU, VE.ev, VE.evs, retvs, tupOf, grab, vfill, vbsl, eqCells, eqCell, veqs, veqs1, vmnx, AV.isCell, AV.isUndef, Nat.reduceEqDiff, Nat.reduceAdd, Nat.reduceSub, Nat.reduceLeDiff, Nat.reduceLT, reduceIte, reduceCtorEq, Nat.reduceBEq]) | (simp (disch := first | assumption | omega | exact Seg.len _ | exact Vec.len _ | exact Leg.len _ | exact num_len _ | exact rowA_len _ | exact rowA_len | exact rowT_len _ | exact rowT_len | exact Seg.len | exact Vec.len | exact Leg.len | exact num_len | exact AV.slen _ _ | rfl) only [num, Vec.a, Seg.a, vP]) | (with_reducible (first | refine gsnd (fun _ => ?_) (fun _ => ?_) | refine csnd (fun _ => ?_) (fun _ => ?_) | refine gsd (fun _ => ?_) (fun _ => ?_) | refine csd (fun _ => ?_) (fun _ => ?_) | refine gsn (fun _ => ?_) (fun _ => ?_) | refine csn (fun _ => ?_) (fun _ => ?_))) | (with_reducible refine gs (fun _ => ?_) (fun _ => ?_)) | (with_reducible refine cs_ (fun _ => ?_) (fun _ => ?_)) | (with_reducible refine objQ_i (fun _ _ => ?_); (repeat (with_reducible refine imp_i (fun _ => ?_)))) | ((try with_reducible refine appK_a ?_); first | (with_reducible refine appD_F (by refine ⟨?_, ?_, ?_, ?_⟩ <;> (first | assumption | omega | exact St.has_add (by assumption) | (simp only [ins_has]; exact St.has_add (by assumption)) | (simp only [ins_has, fresh_ins, kill_ins, add_ins] at *; exact St.has_add (by assumption)) | (simp only [*, ins_has, has_full, St.has_add]; done) | (simp [-List.map_take, -List.map_drop, or_imp, forall_and, Seg.a, Vec.a, Leg.a, num, okEl, cells_agg, cells_int, cells_sl, cells_bool, AV.isCell]; done) | (simp; omega))) (fun _ _ => ?_)) | (with_reducible refine appD_V (by refine ⟨?_, ?_, ?_, ?_, ?_⟩ <;> (first | assumption | omega | exact St.has_add (by assumption) | (simp only [ins_has]; exact St.has_add (by assumption)) | (simp only [ins_has, fresh_ins, kill_ins, add_ins] at *; exact St.has_add (by assumption)) | (simp only [*, ins_has, has_full, St.has_add]; done) | (simp [-List.map_take, -List.map_drop, or_imp, forall_and, Seg.a, Vec.a, Leg.a, num, okEl, cells_agg, cells_int, cells_sl, cells_bool, AV.isCell]; done) | (simp; omega))) (fun _ _ => ?_))) | (with_reducible refine freshQ_i (fun _ _ => ?_)) | (with_reducible refine nilQ_i (fun _ _ => ?_)) | (with_reducible first | refine callH_use (hLE _ _) ?_ | refine pureQ_use (hLE _ _) ?_)))
          exact ⟨_, St.le.refl _, S', .inr hE', hle'.trans (by (refine ⟨fun i o e => ?_, fun _ h => h⟩; revert e; simp only [St.ins, St.del, add_objs, kill_objs]; (repeat' split); all_goals (first | exact id | (intros; contradiction) | (intros; subst_vars; contradiction) | (intros; simp_all; done) | (intros; subst_vars; simp_all; done))))⟩
  · rintro fr s hfr hd ⟨j, p, u, S, rfl, h17, h5, hI, hS6, hj, HK⟩
    rw [List.drop_length, lowGo] at HK
    cases hle : (decide (v.m ≤ u.m) && decide (v.c ≤ u.c)) with
    | true =>
      have HN : Hid (L.drop j = []) := ⟨by rw [HK.out, if_pos (show leW v u = true from hle)]⟩
      have hjl : j = L.length := by have := List.drop_eq_nil_iff.1 HN.out; omega
      subst hjl
      clear HK HN
      (repeat' (first | (simp (config := { maxDischargeDepth := 16 }) only [*, num, Vec.a, Seg.a, vX, Int.reduceLE, Int.reduceLT, Int.reduceGE, Int.reduceGT, Int.reduceBEq, Int.reduceBNe, Int.reduceAdd, Int.reduceSub, Int.reduceMul, Int.reduceNeg, ↓vD, vU, VE.ev, VE.evs, retvs, tupOf, grab, vfill, vbsl, eqCells, eqCell, veqs, veqs1, vmnx, AV.isCell, AV.isUndef, Nat.reduceEqDiff, Nat.reduceAdd, Nat.reduceSub, Nat.reduceLeDiff, Nat.reduceLT, reduceIte, reduceCtorEq, Nat.reduceBEq]) | (simp (disch := first | assumption | omega | exact Seg.len _ | exact Vec.len _ | exact Leg.len _ | exact num_len _ | exact rowA_len _ | exact rowA_len | exact rowT_len _ | exact rowT_len | exact Seg.len | exact Vec.len | exact Leg.len | exact num_len | exact AV.slen _ _ | rfl) only [num, Vec.a, Seg.a, vP]) | (with_reducible (first | refine gsnd (fun _ => ?_) (fun _ => ?_) | refine csnd (fun _ => ?_) (fun _ => ?_) | refine gsd (fun _ => ?_) (fun _ => ?_) | refine csd (fun _ => ?_) (fun _ => ?_) | refine gsn (fun _ => ?_) (fun _ => ?_) | refine csn (fun _ => ?_) (fun _ => ?_))) | (with_reducible refine gs (fun _ => ?_) (fun _ => ?_)) | (with_reducible refine cs_ (fun _ => ?_) (fun _ => ?_)) | (with_reducible refine objQ_i (fun _ _ => ?_); (repeat (with_reducible refine imp_i (fun _ => ?_)))) | ((try with_reducible refine appK_a ?_); first | (with_reducible refine appD_F (by refine ⟨?_, ?_, ?_, ?_⟩ <;> (first | assumption | omega | exact St.has_add (by assumption) | (simp only [ins_has]; exact St.has_add (by assumption)) | (simp only [ins_has, fresh_ins, kill_ins, add_ins] at *; exact St.has_add (by assumption)) | (simp only [*, ins_has, has_full, St.has_add]; done) | (simp [-List.map_take, -List.map_drop, or_imp, forall_and, Seg.a, Vec.a, Leg.a, num, okEl, cells_agg, cells_int, cells_sl, cells_bool, AV.isCell]; done) | (simp; omega))) (fun _ _ => ?_)) | (with_reducible refine appD_V (by refine ⟨?_, ?_, ?_, ?_, ?_⟩ <;> (first | assumption | omega | exact St.has_add (by assumption) | (simp only [ins_has]; exact St.has_add (by assumption)) | (simp only [ins_has, fresh_ins, kill_ins, add_ins] at *; exact St.has_add (by assumption)) | (simp only [*, ins_has, has_full, St.has_add]; done) | (simp [-List.map_take, -List.map_drop, or_imp, forall_and, Seg.a, Vec.a, Leg.a, num, okEl, cells_agg, cells_int, cells_sl, cells_bool, AV.isCell]; done) | (simp; omega))) (fun _ _ => ?_))) | (with_reducible refine freshQ_i (fun _ _ => ?_)) | (with_reducible refine nilQ_i (fun _ _ => ?_)) | (with_reducible first | refine callH_use (hLE _ _) ?_ | refine pureQ_use (hLE _ _) ?_)))
      exact ⟨_, St.le.refl _, S, .inl hI, by (refine ⟨fun i o e => ?_, fun _ h => h⟩; revert e; simp only [St.ins, St.del, add_objs, kill_objs]; (repeat' split); all_goals (first | exact id | (intros; contradiction) | (intros; subst_vars; contradiction) | (intros; simp_all; done) | (intros; subst_vars; simp_all; done)))⟩
    | false =>
      have HN : Hid (L.drop j = [⟨p, w.c⟩]) := ⟨by rw [HK.out, if_neg (by unfold leW; rw [hle]; simp)]⟩
      clear HK
      (repeat' (first | (simp (config := { maxDischargeDepth := 16 }) only [*, num, Vec.a, Seg.a, vX, Int.reduceLE, Int.reduceLT, Int.reduceGE, Int.reduceGT, Int.reduceBEq, Int.reduceBNe, Int.reduceAdd, Int.reduceSub, Int.reduceMul, Int.reduceNeg, ↓vD, vU, VE.ev, VE.evs, retvs, tupOf, grab, vfill, vbsl, eqCells, eqCell, veqs, veqs1, vmnx, AV.isCell, AV.isUndef, Nat.reduceEqDiff, Nat.reduceAdd, Nat.reduceSub, Nat.reduceLeDiff, Nat.reduceLT, reduceIte, reduceCtorEq, Nat.reduceBEq]) | (simp (disch := first | assumption | omega | exact Seg.len _ | exact Vec.len _ | exact Leg.len _ | exact num_len _ | exact rowA_len _ | exact rowA_len | exact rowT_len _ | exact rowT_len | exact Seg.len | exact Vec.len | exact Leg.len | exact num_len | exact AV.slen _ _ | rfl) only [num, Vec.a, Seg.a, vP]) | (with_reducible (first | refine gsnd (fun _ => ?_) (fun _ => ?_) | refine csnd (fun _ => ?_) (fun _ => ?_) | refine gsd (fun _ => ?_) (fun _ => ?_) | refine csd (fun _ => ?_) (fun _ => ?_) | refine gsn (fun _ => ?_) (fun _ => ?_) | refine csn (fun _ => ?_) (fun _ => ?_))) | (with_reducible refine gs (fun _ => ?_) (fun _ => ?_)) | (with_reducible refine cs_ (fun _ => ?_) (fun _ => ?_)) | (with_reducible refine objQ_i (fun _ _ => ?_); (repeat (with_reducible refine imp_i (fun _ => ?_)))) | ((try with_reducible refine appK_a ?_); first | (with_reducible refine appD_F (by refine ⟨?_, ?_, ?_, ?_⟩ <;> (first | assumption | omega | exact St.has_add (by assumption) | (simp only [ins_has]; exact St.has_add (by assumption)) | (simp only [ins_has, fresh_ins, kill_ins, add_ins] at *; exact St.has_add (by assumption)) | (simp only [*, ins_has, has_full, St.has_add]; done) | (simp [-List.map_take, -List.map_drop, or_imp, forall_and, Seg.a, Vec.a, Leg.a, num, okEl, cells_agg, cells_int, cells_sl, cells_bool, AV.isCell]; done) | (simp; omega))) (fun _ _ => ?_)) | (with_reducible refine appD_V (by refine ⟨?_, ?_, ?_, ?_, ?_⟩ <;> (first | assumption | omega | exact St.has_add (by assumption) | (simp only [ins_has]; exact St.has_add (by assumption)) | (simp only [ins_has, fresh_ins, kill_ins, add_ins] at *; exact St.has_add (by assumption)) | (simp only [*, ins_has, has_full, St.has_add]; done) | (simp [-List.map_take, -List.map_drop, or_imp, forall_and, Seg.a, Vec.a, Leg.a, num, okEl, cells_agg, cells_int, cells_sl, cells_bool, AV.isCell]; done) | (simp; omega))) (fun _ _ => ?_))) | (with_reducible refine freshQ_i (fun _ _ => ?_)) | (with_reducible refine nilQ_i (fun _ _ => ?_)) | (with_reducible first | refine callH_use (hLE _ _) ?_ | refine pureQ_use (hLE _ _) ?_)))
      refine yieldH_then ((HY.out j _ _ HN.out S hI).frame b6 _ hS6) rfl ?_
      rintro _ _ ⟨s0, hyy, q6, rfl⟩
      obtain ⟨hj2, _, hd2⟩ := drop_cons HN.out
      have hjl : j + 1 = L.length := by have := List.drop_eq_nil_iff.1 hd2; omega
      rcases hyy with ⟨rfl, S', hI', hle'⟩ | ⟨rfl, S', hE', hle'⟩
      · rw [hjl] at hI'
        (repeat' (first | (simp (config := { maxDischargeDepth := 16 }) only [*, num, Vec.a, Seg.a, vX, Int.reduceLE, Int.reduceLT, Int.reduceGE, Int.reduceGT, Int.reduceBEq, Int.reduceBNe, Int.reduceAdd, Int.reduceSub, Int.reduceMul, Int.reduceNeg, ↓vD, vU, VE.ev, VE.evs, retvs, tupOf, grab, vfill, vbsl, eqCells, eqCell, veqs, veqs1, vmnx, AV.isCell, AV.isUndef, Nat.reduceEqDiff, Nat.reduceAdd, Nat.reduceSub, Nat.reduceLeDiff, Nat.reduceLT, reduceIte, reduceCtorEq, Nat.reduceBEq]) | (simp (disch := first | assumption | omega | exact Seg.len _ | exact Vec.len _ | exact Leg.len _ | exact num_len _ | exact rowA_len _ | exact rowA_len | exact rowT_len _ | exact rowT_len | exact Seg.len | exact Vec.len | exact Leg.len | exact num_len | exact AV.slen _ _ | rfl) only [num, Vec.a, Seg.a, vP]) | (with_reducible (first | refine gsnd (fun _ => ?_) (fun _ => ?_) | refine csnd (fun _ => ?_) (fun _ => ?_) | refine gsd (fun _ => ?_) (fun _ => ?_) | refine csd (fun _ => ?_) (fun _ => ?_) | refine gsn (fun _ => ?_) (fun _ => ?_) | refine csn (fun _ => ?_) (fun _ => ?_))) | (with_reducible refine gs (fun _ => ?_) (fun _ => ?_)) | (with_reducible refine cs_ (fun _ => ?_) (fun _ => ?_)) | (with_reducible refine objQ_i (fun _ _ => ?_); (repeat (with_reducible refine imp_i (fun _ => ?_)))) | ((try with_reducible refine appK_a ?_); first | (with_reducible refine appD_F (by refine ⟨?_, ?_, ?_, ?_⟩ <;> (first | assumption | omega | exact St.has_add (by assumption) | (simp only [ins_has]; exact St.has_add (by assumption)) | (simp only [ins_has, fresh_ins, kill_ins, add_ins] at *; exact St.has_add (by assumption)) | (simp only [*, ins_has, has_full, St.has_add]; done) | (simp [-List.map_take, -List.map_drop, or_imp, forall_and, Seg.a, Vec.a, Leg.a, num, okEl, cells_agg, cells_int, cells_sl, cells_bool, AV.isCell]; done) | (simp; omega))) (fun _ _ => ?_)) | (with_reducible refine appD_V (by refine ⟨?_, ?_, ?_, ?_, ?_⟩ <;> (first | assumption | omega | exact St.has_add (by assumption) | (simp only [ins_has]; exact St.has_add (by assumption)) | (simp only [ins_has, fresh_ins, kill_ins, add_ins] at *; exact St.has_add (by assumption)) | (simp only [*, ins_has, has_full, St.has_add]; done) | (simp [-List.map_take, -List.map_drop, or_imp, forall_and, Seg.a, Vec.a, Leg.a, num, okEl, cells_agg, cells_int, cells_sl, cells_bool, AV.isCell]; done) | (simp; omega))) (fun _ _ => ?_))) | (with_reducible refine freshQ_i (fun _ _ => ?_)) | (with_reducible refine nilQ_i (fun _ _ => ?_)) | (with_reducible first | refine callH_use (hLE _ _) ?_ | refine pureQ_use (hLE _ _) ?_)))
        exact ⟨_, St.le.refl _, S', .inl hI', hle'.trans (by (refine ⟨fun i o e => ?_, fun _ h => h⟩; revert e; simp only [St.ins, St.del, add_objs, kill_objs]; (repeat' split); all_goals (first | exact id | (intros; contradiction) | (intros; subst_vars; contradiction) | (intros; simp_all; done) | (intros; subst_vars; simp_all; done))))⟩
      · (repeat' (first | (simp (config := { maxDischargeDepth := 16 }) only [*, num, Vec.a, Seg.a, vX, Int.reduceLE, Int.reduceLT, Int.reduceGE, Int.reduceGT, Int.reduceBEq, Int.reduceBNe, Int.reduceAdd, Int.reduceSub, Int.reduceMul, Int.reduceNeg, ↓vD, vU, VE.ev, VE.evs, retvs, tupOf, grab, vfill, vbsl, eqCells, eqCell, veqs, veqs1, vmnx, AV.isCell, AV.isUndef, Nat.reduceEqDiff, Nat.reduceAdd, Nat.reduceSub, Nat.reduceLeDiff, Nat.reduceLT, reduceIte, reduceCtorEq, Nat.reduceBEq]) | (simp (disch := first | assumption | omega | exact Seg.len _ | exact Vec.len _ | exact Leg.len _ | exact num_len _ | exact rowA_len _ | exact rowA_len | exact rowT_len _ | exact rowT_len | exact Seg.len | exact Vec.len | exact Leg.len | exact num_len | exact AV.slen _ _ | rfl) only [num, Vec.a, Seg.a, vP]) | (with_reducible (first | refine gsnd (fun _ => ?_) (fun _ => ?_) | refine csnd (fun _ => ?_) (fun _ => ?_) | refine gsd (fun _ => ?_) (fun _ => ?_) | refine csd (fun _ => ?_) (fun _ => ?_) | refine gsn (fun _ => ?_) (fun _ => ?_) | refine csn (fun _ => ?_) (fun _ => ?_))) | (with_reducible refine gs (fun _ => ?_) (fun _ => ?_)) | (with_reducible refine cs_ (fun _ => ?_) (fun _ => ?_)) | (with_reducible refine objQ_i (fun _ _ => ?_); (repeat (with_reducible refine imp_i (fun _ => ?_)))) | ((try with_reducible refine appK_a ?_); first | (with_reducible refine appD_F (by refine ⟨?_, ?_, ?_, ?_⟩ <;> (first | assumption | omega | exact St.has_add (by assumption) | (simp only [ins_has]; exact St.has_add (by assumption)) | (simp only [ins_has, fresh_ins, kill_ins, add_ins] at *; exact St.has_add (by assumption)) | (simp only [*, ins_has, has_full, St.has_add]; done) | (simp [-List.map_take, -List.map_drop, or_imp, forall_and, Seg.a, Vec.a, Leg.a, num, okEl, cells_agg, cells_int, cells_sl, cells_bool, AV.isCell]; done) | (simp; omega))) (fun _ _ => ?_)) | (with_reducible refine appD_V (by refine ⟨?_, ?_, ?_, ?_, ?_⟩ <;> (first | assumption | omega | exact St.has_add (by assumption) | (simp only [ins_has]; exact St.has_add (by assumption)) | (simp only [ins_has, fresh_ins, kill_ins, add_ins] at *; exact St.has_add (by assumption)) | (simp only [*, ins_has, has_full, St.has_add]; done) | (simp [-List.map_take, -List.map_drop, or_imp, forall_and, Seg.a, Vec.a, Leg.a, num, okEl, cells_agg, cells_int, cells_sl, cells_bool, AV.isCell]; done) | (simp; omega))) (fun _ _ => ?_))) | (with_reducible refine freshQ_i (fun _ _ => ?_)) | (with_reducible refine nilQ_i (fun _ _ => ?_)) | (with_reducible first | refine callH_use (hLE _ _) ?_ | refine pureQ_use (hLE _ _) ?_)))
        exact ⟨_, St.le.refl _, S', .inr hE', hle'.trans (by (refine ⟨fun i o e => ?_, fun _ h => h⟩; revert e; simp only [St.ins, St.del, add_objs, kill_objs]; (repeat' split); all_goals (first | exact id | (intros; contradiction) | (intros; subst_vars; contradiction) | (intros; simp_all; done) | (intros; subst_vars; simp_all; done))))⟩
end Go.Proofs.Ytddbnncimggogaa.V
end
section
set_option linter.unusedSimpArgs false
set_option linter.unusedVariables false
/- slot.without. -/
namespace Go.Proofs.Ytddbnncimggogaa.V
open Go Go.Proofs
set_option maxRecDepth 100000
set_option maxHeartbeats 4000000
def cutN (x w : Vec) : Nat → List Vec
  | 0 => []
  | 1 => if w.m < min w.c x.m then [⟨w.m, min w.c x.m⟩] else []
  | _ => cutW x w
theorem cutN1 (x w : Vec) : cutN x w 2 = cutN x w 1 ++ (if max w.m x.c < w.c then [⟨max w.m x.c, w.c⟩] else []) := rfl
theorem without_v (l : List Vec) (hl : l.length ≤ 100000000) (t : Tok) (x : Vec) : VPure Try.prog 84 [.sl (l.map Vec.a) t, .agg [.int .i64 x.m, .int .i64 x.c]] (.sl ((withoutF l x).map Vec.a) .no) := by
  refine VPure.tok (fun Z st => ?_)
  refine VCalls.of v_slot_without_ok (Nat.le_of_ble_eq_true rfl) ?_
  simp only [v_slot_without, ↓vD, vU, VE.ev, VE.evs, retvs, tupOf, grab, vfill, vbsl, eqCells, eqCell, veqs, veqs1, vmnx, AV.isCell, AV.isUndef, Nat.reduceEqDiff, Nat.reduceAdd, Nat.reduceSub, Nat.reduceLeDiff, Nat.reduceLT, reduceIte, reduceCtorEq, Nat.reduceBEq, k_app, k_slc1]
  (repeat' (first | (simp (config := { maxDischargeDepth := 16 }) only [*, cut0, vX, Int.reduceLE, Int.reduceLT, Int.reduceGE, Int.reduceGT, Int.reduceBEq, Int.reduceBNe, Int.reduceAdd, Int.reduceSub, Int.reduceMul, Int.reduceNeg, ↓vD, vU, VE.ev, VE.evs, retvs, tupOf, grab, vfill, vbsl, eqCells, eqCell, veqs, veqs1, vmnx, AV.isCell, AV.isUndef, Nat.reduceEqDiff, Nat.reduceAdd, Nat.reduceSub, Nat.reduceLeDiff, Nat.reduceLT, reduceIte, reduceCtorEq, Nat.reduceBEq]) | (simp (disch := first | assumption | omega | exact Seg.len _ | exact Vec.len _ | exact Leg.len _ | exact num_len _ | exact rowA_len _ | exact rowA_len | exact rowT_len _ | exact rowT_len | exact Seg.len | exact Vec.len | exact Leg.len | exact num_len | exact AV.slen _ _ | rfl) only [cut0, vP]) | (with_reducible (first | refine gsnd (fun _ => ?_) (fun _ => ?_) | refine csnd (fun _ => ?_) (fun _ => ?_) | refine gsd (fun _ => ?_) (fun _ => ?_) | refine csd (fun _ => ?_) (fun _ => ?_) | refine gsn (fun _ => ?_) (fun _ => ?_) | refine csn (fun _ => ?_) (fun _ => ?_))) | (with_reducible refine gs (fun _ => ?_) (fun _ => ?_)) | (with_reducible refine cs_ (fun _ => ?_) (fun _ => ?_)) | (with_reducible refine objQ_i (fun _ _ => ?_); (repeat (with_reducible refine imp_i (fun _ => ?_)))) | ((try with_reducible refine appK_a ?_); first | (with_reducible refine appD_F (by refine ⟨?_, ?_, ?_, ?_⟩ <;> (first | assumption | omega | exact St.has_add (by assumption) | (simp only [ins_has]; exact St.has_add (by assumption)) | (simp only [ins_has, fresh_ins, kill_ins, add_ins] at *; exact St.has_add (by assumption)) | (simp only [*, ins_has, has_full, St.has_add]; done) | (simp [-List.map_take, -List.map_drop, or_imp, forall_and, Seg.a, Vec.a, Leg.a, num, okEl, cells_agg, cells_int, cells_sl, cells_bool, AV.isCell]; done) | (simp; omega))) (fun _ _ => ?_)) | (with_reducible refine appD_V (by refine ⟨?_, ?_, ?_, ?_, ?_⟩ <;> (first | assumption | omega | exact St.has_add (by assumption) | (simp only [ins_has]; exact St.has_add (by assumption)) | (simp only [ins_has, fresh_ins, kill_ins, add_ins] at *; exact St.has_add (by assumption)) | (simp only [*, ins_has, has_full, St.has_add]; done) | (simp [-List.map_take, -List.map_drop, or_imp, forall_and, Seg.a, Vec.a, Leg.a, num, okEl, cells_agg, cells_int, cells_sl, cells_bool, AV.isCell]; done) | (simp; omega))) (fun _ _ => ?_))) | (with_reducible refine freshQ_i (fun _ _ => ?_)) | (with_reducible refine nilQ_i (fun _ _ => ?_))))
  rename_i b3 h3
  refine loopf_of (len := l.length) (by simp only [asgL, dsts, List.cons_append, List.nil_append, List.append_nil]; rfl) (by simp only [noR, Bool.and_true, Bool.and_false]; rfl) (by omega) (fun k fr s => ∃ acc tk S, s = S.ins b3 (.cells [.int .i64 x.m, .int .i64 x.c]) ∧ Ours 2 st S tk ∧ fr.t 14 = .int .i64 k ∧ fr.t 5 = .sl (acc.map Vec.a) tk ∧ Hid (acc = withoutF (l.take k) x) ∧ acc.length ≤ 2 * k) ?_ ?_ ?_
  · exact ⟨[], .full, st, rfl, Ours.full 2 st, by simp [↓vD, vU, VE.ev, VE.evs, retvs, tupOf, grab, vfill, vbsl, eqCells, eqCell, veqs, veqs1, vmnx, AV.isCell, AV.isUndef, Nat.reduceEqDiff, Nat.reduceAdd, Nat.reduceSub, Nat.reduceLeDiff, Nat.reduceLT, reduceIte, reduceCtorEq, Nat.reduceBEq, k_app, k_slc1], by simp [↓vD, vU, VE.ev, VE.evs, retvs, tupOf, grab, vfill, vbsl, eqCells, eqCell, veqs, veqs1, vmnx, AV.isCell, AV.isUndef, Nat.reduceEqDiff, Nat.reduceAdd, Nat.reduceSub, Nat.reduceLeDiff, Nat.reduceLT, reduceIte, reduceCtorEq, Nat.reduceBEq, k_app, k_slc1], ⟨rfl⟩, by simp⟩
  · rintro k fr s hk hw hfr hd ⟨acc, tk, S, rfl, ho, h14, h5, HA, hal⟩
    have hb3 : S.objs b3 = none := by rw [ho.objs]; exact h3
    obtain ⟨w, hx⟩ : ∃ w, l[k] = w := ⟨_, rfl⟩
    have HX := Hid.mk hx
    (repeat' (first | (simp (config := { maxDischargeDepth := 16 }) only [*, Vec.a, vX, Int.reduceLE, Int.reduceLT, Int.reduceGE, Int.reduceGT, Int.reduceBEq, Int.reduceBNe, Int.reduceAdd, Int.reduceSub, Int.reduceMul, Int.reduceNeg, ↓vD, vU, VE.ev, VE.evs, retvs, tupOf, grab, vfill, vbsl, eqCells, eqCell, veqs, veqs1, vmnx, AV.isCell, AV.isUndef, Nat.reduceEqDiff, Nat.reduceAdd, Nat.reduceSub, Nat.reduceLeDiff, Nat.reduceLT, reduceIte, reduceCtorEq, Nat.reduceBEq]) | (simp (disch := first | assumption | omega | exact Seg.len _ | exact Vec.len _ | exact Leg.len _ | exact num_len _ | exact rowA_len _ | exact rowA_len | exact rowT_len _ | exact rowT_len | exact Seg.len | exact Vec.len | exact Leg.len | exact num_len | exact AV.slen _ _ | rfl) only [Vec.a, vP]) | (with_reducible (first | refine gsnd (fun _ => ?_) (fun _ => ?_) | refine csnd (fun _ => ?_) (fun _ => ?_) | refine gsd (fun _ => ?_) (fun _ => ?_) | refine csd (fun _ => ?_) (fun _ => ?_) | refine gsn (fun _ => ?_) (fun _ => ?_) | refine csn (fun _ => ?_) (fun _ => ?_))) | (with_reducible refine gs (fun _ => ?_) (fun _ => ?_)) | (with_reducible refine cs_ (fun _ => ?_) (fun _ => ?_)) | (with_reducible refine objQ_i (fun _ _ => ?_); (repeat (with_reducible refine imp_i (fun _ => ?_)))) | ((try with_reducible refine appK_a ?_); first | (with_reducible refine appD_F (by refine ⟨?_, ?_, ?_, ?_⟩ <;> (first | assumption | omega | exact St.has_add (by assumption) | (simp only [ins_has]; exact St.has_add (by assumption)) | (simp only [ins_has, fresh_ins, kill_ins, add_ins] at *; exact St.has_add (by assumption)) | (simp only [*, ins_has, has_full, St.has_add]; done) | (simp [-List.map_take, -List.map_drop, or_imp, forall_and, Seg.a, Vec.a, Leg.a, num, okEl, cells_agg, cells_int, cells_sl, cells_bool, AV.isCell]; done) | (simp; omega))) (fun _ _ => ?_)) | (with_reducible refine appD_V (by refine ⟨?_, ?_, ?_, ?_, ?_⟩ <;> (first | assumption | omega | exact St.has_add (by assumption) | (simp only [ins_has]; exact St.has_add (by assumption)) | (simp only [ins_has, fresh_ins, kill_ins, add_ins] at *; exact St.has_add (by assumption)) | (simp only [*, ins_has, has_full, St.has_add]; done) | (simp [-List.map_take, -List.map_drop, or_imp, forall_and, Seg.a, Vec.a, Leg.a, num, okEl, cells_agg, cells_int, cells_sl, cells_bool, AV.isCell]; done) | (simp; omega))) (fun _ _ => ?_))) | (with_reducible refine freshQ_i (fun _ _ => ?_)) | (with_reducible refine nilQ_i (fun _ _ => ?_))))
    rename_i b7 h7 n73 n37
    refine loopf_of (len := 2) (by simp only [asgL, dsts, List.cons_append, List.nil_append, List.append_nil]; rfl) (by simp only [noR, Bool.and_true, Bool.and_false]; rfl) (by omega) (fun j fr2 s2 => ∃ acc2 tk2 S2, s2 = (S2.ins b3 (.cells [.int .i64 x.m, .int .i64 x.c])).ins b7 (.cells [.int .i64 w.m, .int .i64 w.c]) ∧ Ours 2 st S2 tk2 ∧ fr2.t 35 = .int .i64 j ∧ fr2.t 5 = .sl (acc2.map Vec.a) tk2 ∧ Hid (acc2 = acc ++ cutN x w j) ∧ acc2.length ≤ 2 * k + j) ?_ ?_ ?_
    · exact ⟨acc, tk, S, rfl, ho, by simp [↓vD, vU, VE.ev, VE.evs, retvs, tupOf, grab, vfill, vbsl, eqCells, eqCell, veqs, veqs1, vmnx, AV.isCell, AV.isUndef, Nat.reduceEqDiff, Nat.reduceAdd, Nat.reduceSub, Nat.reduceLeDiff, Nat.reduceLT, reduceIte, reduceCtorEq, Nat.reduceBEq, k_app, k_slc1], by simp [↓vD, vU, VE.ev, VE.evs, retvs, tupOf, grab, vfill, vbsl, eqCells, eqCell, veqs, veqs1, vmnx, AV.isCell, AV.isUndef, Nat.reduceEqDiff, Nat.reduceAdd, Nat.reduceSub, Nat.reduceLeDiff, Nat.reduceLT, reduceIte, reduceCtorEq, Nat.reduceBEq, k_app, k_slc1, *], ⟨by simp [cutN]⟩, by omega⟩
    · rintro j fr2 s2 hj hw2 hfr2 hd2 ⟨acc2, tk2, S2, rfl, ho2, h35, h52, HA2, hal2⟩
      have hts := ho2.has
      have hob : S2.objs = S.objs := ho2.objs.trans ho.objs.symm
      have h3' : S2.objs b3 = none := by rw [hob]; exact hb3
      have h7' : S2.objs b7 = none := by rw [hob]; exact h7
      rcases (by omega : j = 0 ∨ j = 1) with rfl | rfl
      · simp only [Int.cast_ofNat_Int, Int.natCast_zero] at hw2 h35
        (repeat' (first | (simp (config := { maxDischargeDepth := 16 }) only [*, Vec.a, grab01, vX, Int.reduceLE, Int.reduceLT, Int.reduceGE, Int.reduceGT, Int.reduceBEq, Int.reduceBNe, Int.reduceAdd, Int.reduceSub, Int.reduceMul, Int.reduceNeg, ↓vD, vU, VE.ev, VE.evs, retvs, tupOf, grab, vfill, vbsl, eqCells, eqCell, veqs, veqs1, vmnx, AV.isCell, AV.isUndef, Nat.reduceEqDiff, Nat.reduceAdd, Nat.reduceSub, Nat.reduceLeDiff, Nat.reduceLT, reduceIte, reduceCtorEq, Nat.reduceBEq]) | (simp (disch := first | assumption | omega | exact Seg.len _ | exact Vec.len _ | exact Leg.len _ | exact num_len _ | exact rowA_len _ | exact rowA_len | exact rowT_len _ | exact rowT_len | exact Seg.len | exact Vec.len | exact Leg.len | exact num_len | exact AV.slen _ _ | rfl) only [Vec.a, grab01, vP]) | (with_reducible (first | refine gsnd (fun _ => ?_) (fun _ => ?_) | refine csnd (fun _ => ?_) (fun _ => ?_) | refine gsd (fun _ => ?_) (fun _ => ?_) | refine csd (fun _ => ?_) (fun _ => ?_) | refine gsn (fun _ => ?_) (fun _ => ?_) | refine csn (fun _ => ?_) (fun _ => ?_))) | (with_reducible refine gs (fun _ => ?_) (fun _ => ?_)) | (with_reducible refine cs_ (fun _ => ?_) (fun _ => ?_)) | (with_reducible refine objQ_i (fun _ _ => ?_); (repeat (with_reducible refine imp_i (fun _ => ?_)))) | ((try with_reducible refine appK_a ?_); first | (with_reducible refine appD_F (by refine ⟨?_, ?_, ?_, ?_⟩ <;> (first | assumption | omega | exact St.has_add (by assumption) | (simp only [ins_has]; exact St.has_add (by assumption)) | (simp only [ins_has, fresh_ins, kill_ins, add_ins] at *; exact St.has_add (by assumption)) | (simp only [*, ins_has, has_full, St.has_add]; done) | (simp [-List.map_take, -List.map_drop, or_imp, forall_and, Seg.a, Vec.a, Leg.a, num, okEl, cells_agg, cells_int, cells_sl, cells_bool, AV.isCell]; done) | (simp; omega))) (fun _ _ => ?_)) | (with_reducible refine appD_V (by refine ⟨?_, ?_, ?_, ?_, ?_⟩ <;> (first | assumption | omega | exact St.has_add (by assumption) | (simp only [ins_has]; exact St.has_add (by assumption)) | (simp only [ins_has, fresh_ins, kill_ins, add_ins] at *; exact St.has_add (by assumption)) | (simp only [*, ins_has, has_full, St.has_add]; done) | (simp [-List.map_take, -List.map_drop, or_imp, forall_and, Seg.a, Vec.a, Leg.a, num, okEl, cells_agg, cells_int, cells_sl, cells_bool, AV.isCell]; done) | (simp; omega))) (fun _ _ => ?_))) | (with_reducible refine freshQ_i (fun _ _ => ?_)) | (with_reducible refine nilQ_i (fun _ _ => ?_))))
        · rename_i b9 h9 n1 n2 n3 n4 hc t1 hf
          have ho3 := ho2.next (t' := t1) (by simpa only [kill_ins, fresh_ins] using hf)
          refine ⟨_, by (refine ⟨fun i o e => ?_, fun _ h => h⟩; revert e; simp only [St.ins, St.del, add_objs, kill_objs]; (repeat' split); all_goals (first | exact id | (intros; contradiction) | (intros; subst_vars; contradiction) | (intros; simp_all; done) | (intros; subst_vars; simp_all; done))), acc2 ++ [⟨w.m, min w.c x.m⟩], t1, _, rfl, ho3, by simp [Vec.a], ⟨?_⟩, by simp; omega⟩
          rw [HA2.out]; simp [cutN, hc]
        · rename_i b9 h9 n1 n2 n3 n4 hc
          refine ⟨_, by (refine ⟨fun i o e => ?_, fun _ h => h⟩; revert e; simp only [St.ins, St.del, add_objs, kill_objs]; (repeat' split); all_goals (first | exact id | (intros; contradiction) | (intros; subst_vars; contradiction) | (intros; simp_all; done) | (intros; subst_vars; simp_all; done))), acc2, tk2, _, rfl, ho2, rfl, ⟨?_⟩, by omega⟩
          rw [HA2.out]; simp [cutN, hc]
      · simp only [Int.cast_ofNat_Int, Int.natCast_one] at hw2 h35
        (repeat' (first | (simp (config := { maxDischargeDepth := 16 }) only [*, Vec.a, grab23, vX, Int.reduceLE, Int.reduceLT, Int.reduceGE, Int.reduceGT, Int.reduceBEq, Int.reduceBNe, Int.reduceAdd, Int.reduceSub, Int.reduceMul, Int.reduceNeg, ↓vD, vU, VE.ev, VE.evs, retvs, tupOf, grab, vfill, vbsl, eqCells, eqCell, veqs, veqs1, vmnx, AV.isCell, AV.isUndef, Nat.reduceEqDiff, Nat.reduceAdd, Nat.reduceSub, Nat.reduceLeDiff, Nat.reduceLT, reduceIte, reduceCtorEq, Nat.reduceBEq]) | (simp (disch := first | assumption | omega | exact Seg.len _ | exact Vec.len _ | exact Leg.len _ | exact num_len _ | exact rowA_len _ | exact rowA_len | exact rowT_len _ | exact rowT_len | exact Seg.len | exact Vec.len | exact Leg.len | exact num_len | exact AV.slen _ _ | rfl) only [Vec.a, grab23, vP]) | (with_reducible (first | refine gsnd (fun _ => ?_) (fun _ => ?_) | refine csnd (fun _ => ?_) (fun _ => ?_) | refine gsd (fun _ => ?_) (fun _ => ?_) | refine csd (fun _ => ?_) (fun _ => ?_) | refine gsn (fun _ => ?_) (fun _ => ?_) | refine csn (fun _ => ?_) (fun _ => ?_))) | (with_reducible refine gs (fun _ => ?_) (fun _ => ?_)) | (with_reducible refine cs_ (fun _ => ?_) (fun _ => ?_)) | (with_reducible refine objQ_i (fun _ _ => ?_); (repeat (with_reducible refine imp_i (fun _ => ?_)))) | ((try with_reducible refine appK_a ?_); first | (with_reducible refine appD_F (by refine ⟨?_, ?_, ?_, ?_⟩ <;> (first | assumption | omega | exact St.has_add (by assumption) | (simp only [ins_has]; exact St.has_add (by assumption)) | (simp only [ins_has, fresh_ins, kill_ins, add_ins] at *; exact St.has_add (by assumption)) | (simp only [*, ins_has, has_full, St.has_add]; done) | (simp [-List.map_take, -List.map_drop, or_imp, forall_and, Seg.a, Vec.a, Leg.a, num, okEl, cells_agg, cells_int, cells_sl, cells_bool, AV.isCell]; done) | (simp; omega))) (fun _ _ => ?_)) | (with_reducible refine appD_V (by refine ⟨?_, ?_, ?_, ?_, ?_⟩ <;> (first | assumption | omega | exact St.has_add (by assumption) | (simp only [ins_has]; exact St.has_add (by assumption)) | (simp only [ins_has, fresh_ins, kill_ins, add_ins] at *; exact St.has_add (by assumption)) | (simp only [*, ins_has, has_full, St.has_add]; done) | (simp [-List.map_take, -List.map_drop, or_imp, forall_and, Seg.a, Vec.a, Leg.a, num, okEl, cells_agg, cells_int, cells_sl, cells_bool, AV.isCell]; done) | (simp; omega))) (fun _ _ => ?_))) | (with_reducible refine freshQ_i (fun _ _ => ?_)) | (with_reducible refine nilQ_i (fun _ _ => ?_))))
        · rename_i b9 h9 n1 n2 n3 n4 hc t1 hf
          have ho3 := ho2.next (t' := t1) (by simpa only [kill_ins, fresh_ins] using hf)
          refine ⟨_, by (refine ⟨fun i o e => ?_, fun _ h => h⟩; revert e; simp only [St.ins, St.del, add_objs, kill_objs]; (repeat' split); all_goals (first | exact id | (intros; contradiction) | (intros; subst_vars; contradiction) | (intros; simp_all; done) | (intros; subst_vars; simp_all; done))), acc2 ++ [⟨max w.m x.c, w.c⟩], t1, _, rfl, ho3, by simp [Vec.a], ⟨?_⟩, by simp; omega⟩
          rw [HA2.out, cutN1, if_pos hc, List.append_assoc]
        · rename_i b9 h9 n1 n2 n3 n4 hc
          refine ⟨_, by (refine ⟨fun i o e => ?_, fun _ h => h⟩; revert e; simp only [St.ins, St.del, add_objs, kill_objs]; (repeat' split); all_goals (first | exact id | (intros; contradiction) | (intros; subst_vars; contradiction) | (intros; simp_all; done) | (intros; subst_vars; simp_all; done))), acc2, tk2, _, rfl, ho2, rfl, ⟨?_⟩, by omega⟩
          rw [HA2.out, cutN1, if_neg hc, List.append_nil]
    · rintro fr2 s2 hfr2 hd2 ⟨acc2, tk2, S2, rfl, ho2, h35, h52, HA2, hal2⟩
      have hob : S2.objs = S.objs := ho2.objs.trans ho.objs.symm
      have h3' : S2.objs b3 = none := by rw [hob]; exact hb3
      have h7' : S2.objs b7 = none := by rw [hob]; exact h7
      (repeat' (first | (simp (config := { maxDischargeDepth := 16 }) only [*, Vec.a, vX, Int.reduceLE, Int.reduceLT, Int.reduceGE, Int.reduceGT, Int.reduceBEq, Int.reduceBNe, Int.reduceAdd, Int.reduceSub, Int.reduceMul, Int.reduceNeg, ↓vD, vU, VE.ev, VE.evs, retvs, tupOf, grab, vfill, vbsl, eqCells, eqCell, veqs, veqs1, vmnx, AV.isCell, AV.isUndef, Nat.reduceEqDiff, Nat.reduceAdd, Nat.reduceSub, Nat.reduceLeDiff, Nat.reduceLT, reduceIte, reduceCtorEq, Nat.reduceBEq]) | (simp (disch := first | assumption | omega | exact Seg.len _ | exact Vec.len _ | exact Leg.len _ | exact num_len _ | exact rowA_len _ | exact rowA_len | exact rowT_len _ | exact rowT_len | exact Seg.len | exact Vec.len | exact Leg.len | exact num_len | exact AV.slen _ _ | rfl) only [Vec.a, vP]) | (with_reducible (first | refine gsnd (fun _ => ?_) (fun _ => ?_) | refine csnd (fun _ => ?_) (fun _ => ?_) | refine gsd (fun _ => ?_) (fun _ => ?_) | refine csd (fun _ => ?_) (fun _ => ?_) | refine gsn (fun _ => ?_) (fun _ => ?_) | refine csn (fun _ => ?_) (fun _ => ?_))) | (with_reducible refine gs (fun _ => ?_) (fun _ => ?_)) | (with_reducible refine cs_ (fun _ => ?_) (fun _ => ?_)) | (with_reducible refine objQ_i (fun _ _ => ?_); (repeat (with_reducible refine imp_i (fun _ => ?_)))) | ((try with_reducible refine appK_a ?_); first | (with_reducible refine appD_F (by refine ⟨?_, ?_, ?_, ?_⟩ <;> (first | assumption | omega | exact St.has_add (by assumption) | (simp only [ins_has]; exact St.has_add (by assumption)) | (simp only [ins_has, fresh_ins, kill_ins, add_ins] at *; exact St.has_add (by assumption)) | (simp only [*, ins_has, has_full, St.has_add]; done) | (simp [-List.map_take, -List.map_drop, or_imp, forall_and, Seg.a, Vec.a, Leg.a, num, okEl, cells_agg, cells_int, cells_sl, cells_bool, AV.isCell]; done) | (simp; omega))) (fun _ _ => ?_)) | (with_reducible refine appD_V (by refine ⟨?_, ?_, ?_, ?_, ?_⟩ <;> (first | assumption | omega | exact St.has_add (by assumption) | (simp only [ins_has]; exact St.has_add (by assumption)) | (simp only [ins_has, fresh_ins, kill_ins, add_ins] at *; exact St.has_add (by assumption)) | (simp only [*, ins_has, has_full, St.has_add]; done) | (simp [-List.map_take, -List.map_drop, or_imp, forall_and, Seg.a, Vec.a, Leg.a, num, okEl, cells_agg, cells_int, cells_sl, cells_bool, AV.isCell]; done) | (simp; omega))) (fun _ _ => ?_))) | (with_reducible refine freshQ_i (fun _ _ => ?_)) | (with_reducible refine nilQ_i (fun _ _ => ?_))))
      refine ⟨_, by (refine ⟨fun i o e => ?_, fun _ h => h⟩; revert e; simp only [St.ins, St.del, add_objs, kill_objs]; (repeat' split); all_goals (first | exact id | (intros; contradiction) | (intros; subst_vars; contradiction) | (intros; simp_all; done) | (intros; subst_vars; simp_all; done))), acc2, tk2, S2, rfl, ho2, rfl, ⟨?_⟩, by omega⟩
      rw [HA2.out, HA.out, withoutF_take hk, HX.out]; rfl
  · rintro fr s hfr hd ⟨acc, tk, S, rfl, ho, h14, h5, HA, hal⟩
    have hb3 : S.objs b3 = none := by rw [ho.objs]; exact h3
    have hun := ho.under
    (repeat' (first | (simp (config := { maxDischargeDepth := 16 }) only [*, vX, Int.reduceLE, Int.reduceLT, Int.reduceGE, Int.reduceGT, Int.reduceBEq, Int.reduceBNe, Int.reduceAdd, Int.reduceSub, Int.reduceMul, Int.reduceNeg, ↓vD, vU, VE.ev, VE.evs, retvs, tupOf, grab, vfill, vbsl, eqCells, eqCell, veqs, veqs1, vmnx, AV.isCell, AV.isUndef, Nat.reduceEqDiff, Nat.reduceAdd, Nat.reduceSub, Nat.reduceLeDiff, Nat.reduceLT, reduceIte, reduceCtorEq, Nat.reduceBEq]) | (simp (disch := first | assumption | omega | exact Seg.len _ | exact Vec.len _ | exact Leg.len _ | exact num_len _ | exact rowA_len _ | exact rowA_len | exact rowT_len _ | exact rowT_len | exact Seg.len | exact Vec.len | exact Leg.len | exact num_len | exact AV.slen _ _ | rfl) only [vP]) | (with_reducible (first | refine gsnd (fun _ => ?_) (fun _ => ?_) | refine csnd (fun _ => ?_) (fun _ => ?_) | refine gsd (fun _ => ?_) (fun _ => ?_) | refine csd (fun _ => ?_) (fun _ => ?_) | refine gsn (fun _ => ?_) (fun _ => ?_) | refine csn (fun _ => ?_) (fun _ => ?_))) | (with_reducible refine gs (fun _ => ?_) (fun _ => ?_)) | (with_reducible refine cs_ (fun _ => ?_) (fun _ => ?_)) | (with_reducible refine objQ_i (fun _ _ => ?_); (repeat (with_reducible refine imp_i (fun _ => ?_)))) | ((try with_reducible refine appK_a ?_); first | (with_reducible refine appD_F (by refine ⟨?_, ?_, ?_, ?_⟩ <;> (first | assumption | omega | exact St.has_add (by assumption) | (simp only [ins_has]; exact St.has_add (by assumption)) | (simp only [ins_has, fresh_ins, kill_ins, add_ins] at *; exact St.has_add (by assumption)) | (simp only [*, ins_has, has_full, St.has_add]; done) | (simp [-List.map_take, -List.map_drop, or_imp, forall_and, Seg.a, Vec.a, Leg.a, num, okEl, cells_agg, cells_int, cells_sl, cells_bool, AV.isCell]; done) | (simp; omega))) (fun _ _ => ?_)) | (with_reducible refine appD_V (by refine ⟨?_, ?_, ?_, ?_, ?_⟩ <;> (first | assumption | omega | exact St.has_add (by assumption) | (simp only [ins_has]; exact St.has_add (by assumption)) | (simp only [ins_has, fresh_ins, kill_ins, add_ins] at *; exact St.has_add (by assumption)) | (simp only [*, ins_has, has_full, St.has_add]; done) | (simp [-List.map_take, -List.map_drop, or_imp, forall_and, Seg.a, Vec.a, Leg.a, num, okEl, cells_agg, cells_int, cells_sl, cells_bool, AV.isCell]; done) | (simp; omega))) (fun _ _ => ?_))) | (with_reducible refine freshQ_i (fun _ _ => ?_)) | (with_reducible refine nilQ_i (fun _ _ => ?_))))
    refine ⟨st, hun.trans (by (refine ⟨fun i o e => ?_, fun _ h => h⟩; revert e; simp only [St.ins, St.del, add_objs, kill_objs]; (repeat' split); all_goals (first | exact id | (intros; contradiction) | (intros; subst_vars; contradiction) | (intros; simp_all; done) | (intros; subst_vars; simp_all; done)))), tk, ?_, rfl⟩
    rw [HA.out, List.take_length]
end Go.Proofs.Ytddbnncimggogaa.V
end
section
set_option linter.unusedSimpArgs false
set_option linter.unusedVariables false
/- The compiled functions of the package liveryref02 (printed by Print.lean of this work). -/
namespace Go.Proofs.Ytddbnncimggogaa.V
open Go Go.Proofs
end Go.Proofs.Ytddbnncimggogaa.V
end
section
set_option linter.unusedSimpArgs false
set_option linter.unusedVariables false
/- What the packages liveryref01 and liveryref02 compute. -/
namespace Go.Proofs.Ytddbnncimggogaa.V
open Go Go.Proofs
set_option maxRecDepth 100000
end Go.Proofs.Ytddbnncimggogaa.V
end
section
set_option linter.unusedSimpArgs false
set_option linter.unusedVariables false
/- What the package liveryref02 computes: Times, Of, Same, May, Box. -/
namespace Go.Proofs.Ytddbnncimggogaa.V
open Go Go.Proofs
set_option maxRecDepth 100000
set_option maxHeartbeats 4000000
end Go.Proofs.Ytddbnncimggogaa.V
end
section
set_option linter.unusedSimpArgs false
set_option linter.unusedVariables false
/- The compiled functions of the package liveryref03 (printed by Print.lean of this work). -/
namespace Go.Proofs.Ytddbnncimggogaa.V
open Go Go.Proofs
end Go.Proofs.Ytddbnncimggogaa.V
end
section
set_option linter.unusedSimpArgs false
set_option linter.unusedVariables false
/- liveryref02.Box; the package liveryref03. -/
namespace Go.Proofs.Ytddbnncimggogaa.V
open Go Go.Proofs
set_option maxRecDepth 100000
set_option maxHeartbeats 4000000
/-- A function as an element of a row. -/
def rowA (f : List Seg) : AV := .sl (f.map Seg.a) .no
theorem rowA_len (f : List Seg) : (rowA f).cells.length = 1 := rfl
end Go.Proofs.Ytddbnncimggogaa.V
end
section
set_option linter.unusedSimpArgs false
set_option linter.unusedVariables false
/- calc: may, the joints. -/
namespace Go.Proofs.Ytddbnncimggogaa.V
open Go Go.Proofs
set_option maxRecDepth 100000
set_option maxHeartbeats 4000000
/-- A function handed over, with what right it has. -/
def rowT (p : List Seg × Tok) : AV := .sl (p.1.map Seg.a) p.2
theorem rowT_len (p : List Seg × Tok) : (rowT p).cells.length = 1 := rfl
end Go.Proofs.Ytddbnncimggogaa.V
end
section
set_option linter.unusedSimpArgs false
set_option linter.unusedVariables false
/- slices.SortStableFunc and what it calls, at livery/api.Seg. -/
namespace Go.Proofs.Ytddbnncimggogaa.V.SoSeg
open Go Go.Proofs Go.Proofs.Ytddbnncimggogaa.SP
set_option maxRecDepth 100000
variable {α : Type} [Inhabited α] {Z : Im}
theorem ld (f : α → AV) (hok : ∀ x, okEl 3 (f x) = true) (hag : ∀ x, AV.agg (f x).cells = f x) : ∀ (st : St) (b : Nat) (rest : List AV) (xs : List α) (i : Nat), i < xs.length → vload (ob st b f rest xs) (.ptr b (i * 3)) 3 true = some (f (xs.getD i default)) :=
  fun st b rest xs i h => ob_load st b f rest xs i 3 hok hag h
theorem sto (f : α → AV) (hok : ∀ x, okEl 3 (f x) = true) : ∀ (st : St) (b : Nat) (rest : List AV) (xs : List α) (i : Nat) (y : α) (K : AV → St → Prop) (t : Tag K), i < xs.length → storeK (.ptr b (i * 3)) (f y) 3 (ob st b f rest xs) K t = K .no (ob st b f rest (xs.set i y)) :=
  fun st b rest xs i y K t h => ob_store st b f rest xs i 3 y K t (by omega) hok h
theorem getD_mid (A B : List α) (x : α) (i : Nat) (h : A.length = i) : (A ++ x :: B).getD i default = x := by
  subst h; simp [List.getD_eq_getElem?_getD]
theorem insertion (f : α → AV) (hok : ∀ x, okEl 3 (f x) = true) (hag : ∀ x, AV.agg (f x).cells = f x) {gf : Nat} {fs cs : List AV} (cf : α → α → Int) (o : SWO (ltB cf)) (hc : ∀ x y, VPure Try.prog gf (fs ++ [f x, f y] ++ cs) (.int .i64 (cf x y)))
    (st : St) (bb L c : Nat) (rest : List AV) (A M C : List α) (a b : Nat) (ha : A.length = a) (hb : A.length + M.length = b) (hL : (A ++ (M ++ C)).length = L) (hm : L ≤ 1000000000) :
    VCalls Try.prog Z 151 [.osl bb L c, .int .i64 a, .int .i64 b, .clo gf fs cs] (ob st bb f rest (A ++ (M ++ C)))
      (fun r s => r = .tup [] ∧ ∃ M', s = ob st bb f rest (A ++ (M' ++ C)) ∧ Srt (ltB cf) M' ∧ Stb (ltB cf) M M') := by
  have hlen : A.length + (M.length + C.length) = L := by rw [← hL]; simp
  have w1 : IntKind.i64.wrap ((a : Int) + 1) = ((a + 1 : Nat) : Int) := by rw [wrap_i64 _ (by omega) (by omega)]; omega
  refine VCalls.of v_slices_insertionSortCmpFunc_api_Seg_ok (Nat.le_of_ble_eq_true rfl) ?_
  simp only [v_slices_insertionSortCmpFunc_api_Seg, ↓vD, vU, VE.ev, VE.evs, retvs, tupOf, grab, vfill, vbsl, eqCells, eqCell, veqs, veqs1, vmnx, AV.isCell, AV.isUndef, Nat.reduceEqDiff, Nat.reduceAdd, Nat.reduceSub, Nat.reduceLeDiff, Nat.reduceLT, reduceIte, reduceCtorEq, Nat.reduceBEq, k_app, k_slc1]
  (repeat' (first | (simp (config := { maxDischargeDepth := 16 }) only [*, ↓vD, vU, VE.ev, VE.evs, retvs, tupOf, grab, vfill, vbsl, eqCells, eqCell, veqs, veqs1, vmnx, AV.isCell, AV.isUndef, Nat.reduceEqDiff, Nat.reduceAdd, Nat.reduceSub, Nat.reduceLeDiff, Nat.reduceLT, reduceIte, reduceCtorEq, Nat.reduceBEq, k_app, k_slc1]) | (with_reducible refine gs (fun _ => ?_) (fun _ => ?_)) | (with_reducible refine cs_ (fun _ => ?_) (fun _ => ?_)) | (with_reducible refine objQ_i (fun _ _ => ?_); (repeat (with_reducible refine imp_i (fun _ => ?_)))) | (with_reducible refine appK_a ?_) | (with_reducible refine freshQ_i (fun _ _ => ?_)) | (with_reducible refine nilQ_i (fun _ _ => ?_))))
  refine loopm_of (by simp only [asgL, dsts, List.cons_append, List.nil_append, List.append_nil]; rfl) (by simp only [noR, Bool.and_true, Bool.and_false]; rfl) (fun fr s => ∃ (i : Nat) (M1 : List α), s = ob st bb f rest (A ++ (M1 ++ (M.drop (i - a) ++ C))) ∧ fr.t 8 = .int .i64 i ∧ a < i ∧ i ≤ b + 1 ∧ (M1.length = i - a ∨ M.length = 0 ∧ M1 = []) ∧ Srt (ltB cf) M1 ∧ Stb (ltB cf) (M.take (i - a)) M1)
    (fun fr _ => b + 1 - (match fr.t 8 with | .int _ n => n.toNat | _ => 0)) ?_ ?_
  · refine ⟨a + 1, M.take 1, ?_, by simp [↓vD, vU, VE.ev, VE.evs, retvs, tupOf, grab, vfill, vbsl, eqCells, eqCell, veqs, veqs1, vmnx, AV.isCell, AV.isUndef, Nat.reduceEqDiff, Nat.reduceAdd, Nat.reduceSub, Nat.reduceLeDiff, Nat.reduceLT, reduceIte, reduceCtorEq, Nat.reduceBEq, k_app, k_slc1], by omega, by omega, ?_, ?_, ?_⟩
    · rw [Nat.add_sub_cancel_left, ← List.append_assoc (M.take 1), List.take_append_drop]
    · rw [Nat.add_sub_cancel_left]
      cases M with
      | nil => right; simp
      | cons x M => left; simp
    · cases M with
      | nil => exact Srt.nil
      | cons x M => exact Srt.one x
    · rw [Nat.add_sub_cancel_left]; exact Stb.refl _
  · rintro fr s hf hd ⟨i, M1, rfl, h8, hai, hib, hml, hsr, hst⟩
    by_cases hlt : i < b
    · have hl : i - a < M.length := by omega
      have e1 : decide ((i : Int) < b) = true := by simp; omega
      obtain ⟨x, hx⟩ : ∃ x, M[i - a] = x := ⟨_, rfl⟩
      have hxd : M.drop (i - a) = x :: M.drop (i + 1 - a) := by rw [List.drop_eq_getElem_cons hl, hx, show i + 1 - a = i - a + 1 by omega]
      have htk : M.take (i + 1 - a) = M.take (i - a) ++ [x] := by rw [show i + 1 - a = i - a + 1 by omega, List.take_succ_eq_append_getElem hl, hx]
      have hml1 : M1.length = i - a := by omega
      obtain ⟨R, hR⟩ : ∃ R, R = M.drop (i + 1 - a) ++ C := ⟨_, rfl⟩
      have hst0 : A ++ (M1 ++ (M.drop (i - a) ++ C)) = A ++ (M1 ++ (x :: ([] ++ R))) := by rw [hxd, hR]; simp
      have hRl : R.length + (i + 1) = L := by rw [hR]; simp only [List.length_append, List.length_drop]; omega
      rw [hst0]
      have hdone : ∀ P1 P2 : List α, P1.length + P2.length = i - a → Srt (ltB cf) (P1 ++ x :: P2) ∧ Stb (ltB cf) (M.take (i - a) ++ [x]) (P1 ++ x :: P2) → ∃ (i1 : Nat) (M2 : List α),
          ob st bb f rest (A ++ (P1 ++ (x :: (P2 ++ R)))) = ob st bb f rest (A ++ (M2 ++ (M.drop (i1 - a) ++ C))) ∧ (i : Int) + 1 = (i1 : Int) ∧ a < i1 ∧ i1 ≤ b + 1 ∧ (M2.length = i1 - a ∨ M.length = 0 ∧ M2 = []) ∧ Srt (ltB cf) M2 ∧ Stb (ltB cf) (M.take (i1 - a)) M2 := fun P1 P2 hl h =>
        ⟨i + 1, P1 ++ x :: P2, by rw [hR]; simp, by omega, by omega, by omega, .inl (by simp only [List.length_append, List.length_cons]; omega), h.1, by rw [htk]; exact h.2⟩
      have H := Hid.mk (And.intro hml1 (And.intro hlen hdone))
      clear hst0 hxd htk hml hR hlen hx hL w1 hml1 hdone
      have w2 : IntKind.i64.wrap ((i : Int) + 1) = (i : Int) + 1 := by rw [wrap_i64 _ (by omega) (by omega)]
      have hmi : b + 1 - ((i : Int) + 1).toNat < b + 1 - (i : Int).toNat := by omega
      (repeat' (first | (simp (config := { maxDischargeDepth := 16 }) only [*, ↓vD, vU, VE.ev, VE.evs, retvs, tupOf, grab, vfill, vbsl, eqCells, eqCell, veqs, veqs1, vmnx, AV.isCell, AV.isUndef, Nat.reduceEqDiff, Nat.reduceAdd, Nat.reduceSub, Nat.reduceLeDiff, Nat.reduceLT, reduceIte, reduceCtorEq, Nat.reduceBEq, k_app, k_slc1]) | (with_reducible refine gs (fun _ => ?_) (fun _ => ?_)) | (with_reducible refine cs_ (fun _ => ?_) (fun _ => ?_)) | (with_reducible refine objQ_i (fun _ _ => ?_); (repeat (with_reducible refine imp_i (fun _ => ?_)))) | (with_reducible refine appK_a ?_) | (with_reducible refine freshQ_i (fun _ _ => ?_)) | (with_reducible refine nilQ_i (fun _ _ => ?_))))
      refine loopm_of (by simp only [asgL, dsts, List.cons_append, List.nil_append, List.append_nil]; rfl) (by simp only [noR, Bool.and_true, Bool.and_false]; rfl) (fun fr2 s => ∃ P1 P2 : List α, s = ob st bb f rest (A ++ (P1 ++ (x :: (P2 ++ R)))) ∧ fr2.t 9 = .int .i64 ((a + P1.length : Nat) : Int) ∧ P1.length + P2.length = i - a ∧ Srt (ltB cf) (P1 ++ P2) ∧ Stb (ltB cf) (M.take (i - a)) (P1 ++ P2) ∧ ∀ z ∈ P2, ltB cf x z = true)
        (fun fr2 _ => (match fr2.t 9 with | .int _ n => n.toNat | _ => 0)) ?_ ?_
      · have := H.out.1
        exact ⟨M1, [], rfl, by simp [↓vD, vU, VE.ev, VE.evs, retvs, tupOf, grab, vfill, vbsl, eqCells, eqCell, veqs, veqs1, vmnx, AV.isCell, AV.isUndef, Nat.reduceEqDiff, Nat.reduceAdd, Nat.reduceSub, Nat.reduceLeDiff, Nat.reduceLT, reduceIte, reduceCtorEq, Nat.reduceBEq, k_app, k_slc1]; omega, by simp; omega, by simpa using hsr, by simpa using hst, by simp⟩
      · rintro fr2 s hf2 hd2 ⟨P1, P2, rfl, h9, hPP, hs1, hs2, hP2⟩
        rcases List.eq_nil_or_concat P1 with rfl | ⟨P, y, rfl⟩
        · have e2 : decide ((a : Int) < ((a + ([] : List α).length : Nat) : Int)) = false := by simp
          have hfin := H.out.2.2 [] P2 hPP (ins_done o hs1 hs2 hP2 (by simp))
          (repeat' (first | (simp (config := { maxDischargeDepth := 16 }) only [*, ↓vD, vU, VE.ev, VE.evs, retvs, tupOf, grab, vfill, vbsl, eqCells, eqCell, veqs, veqs1, vmnx, AV.isCell, AV.isUndef, Nat.reduceEqDiff, Nat.reduceAdd, Nat.reduceSub, Nat.reduceLeDiff, Nat.reduceLT, reduceIte, reduceCtorEq, Nat.reduceBEq, k_app, k_slc1]) | (with_reducible refine gs (fun _ => ?_) (fun _ => ?_)) | (with_reducible refine cs_ (fun _ => ?_) (fun _ => ?_)) | (with_reducible refine objQ_i (fun _ _ => ?_); (repeat (with_reducible refine imp_i (fun _ => ?_)))) | (with_reducible refine appK_a ?_) | (with_reducible refine freshQ_i (fun _ _ => ?_)) | (with_reducible refine nilQ_i (fun _ _ => ?_))))
          obtain ⟨i1, M2, hh⟩ := hfin
          exact ⟨_, St.le.refl _, i1, M2, hh⟩
        · obtain ⟨m, hmm⟩ : ∃ m, a + P.length = m := ⟨_, rfl⟩
          obtain ⟨j, hjm⟩ : ∃ j, m + 1 = j := ⟨_, rfl⟩
          have hj : a + (P.concat y).length = j := by simp; omega
          rw [hj] at h9
          have hl2 := H.out.2.1
          have hq : P.length + 1 + P2.length = i - a := by simpa using hPP
          have hlen2 : (A ++ (P.concat y ++ (x :: (P2 ++ R)))).length = L := by
            simp only [List.length_append, List.length_cons, List.concat_eq_append, List.length_nil]; omega
          obtain ⟨ys, hys⟩ : ∃ ys, ys = A ++ (P.concat y ++ (x :: (P2 ++ R))) := ⟨_, rfl⟩
          have gx : ys.getD j default = x := by
            rw [hys, ← List.append_assoc]; exact getD_mid _ _ _ _ (by simp; omega)
          have gy : ys.getD m default = y := by
            rw [hys, show A ++ (P.concat y ++ (x :: (P2 ++ R))) = (A ++ P) ++ y :: (x :: (P2 ++ R)) by simp]; exact getD_mid _ _ _ _ (by simp; omega)
          have gsw : (ys.set j y).set m x = A ++ (P ++ (x :: ((y :: P2) ++ R))) := by
            have h3 := swp_app (A ++ P) [] (P2 ++ R) y x
            have e3 : (A ++ P).length = m := by simp; omega
            have e4 : m + 1 + ([] : List α).length = j := by simp; omega
            rw [e3, e4, swp_comm _ _ _ (by omega)] at h3
            unfold swp at h3
            rw [show (A ++ P) ++ y :: ([] ++ x :: (P2 ++ R)) = ys by rw [hys]; simp, gx, gy] at h3
            rw [h3]; simp
          rw [← hys] at hlen2 ⊢
          have i1 : m < ys.length := by omega
          have i2 : j < ys.length := by omega
          have i3 : m < (ys.set j y).length := by simp; omega
          have i4 : m < L := by omega
          have i5 : j < L := by omega
          have e2 : decide ((a : Int) < (j : Int)) = true := by simp; omega
          have w3 : IntKind.i64.wrap ((j : Int) - 1) = (m : Int) := by rw [wrap_i64 _ (by omega) (by omega)]; omega
          have hld := ld f hok hag
          have hst' := sto f hok
          have HY := Hid.mk (And.intro hys (And.intro hj (And.intro hjm (And.intro hmm gsw))))
          clear hys hj hmm hjm gsw
          (repeat' (first | (simp (config := { maxDischargeDepth := 16 }) only [*, ob_iad, ↓vD, vU, VE.ev, VE.evs, retvs, tupOf, grab, vfill, vbsl, eqCells, eqCell, veqs, veqs1, vmnx, AV.isCell, AV.isUndef, Nat.reduceEqDiff, Nat.reduceAdd, Nat.reduceSub, Nat.reduceLeDiff, Nat.reduceLT, reduceIte, reduceCtorEq, Nat.reduceBEq, k_app, k_slc1]) | (with_reducible refine gs (fun _ => ?_) (fun _ => ?_)) | (with_reducible refine cs_ (fun _ => ?_) (fun _ => ?_)) | (with_reducible refine objQ_i (fun _ _ => ?_); (repeat (with_reducible refine imp_i (fun _ => ?_)))) | (with_reducible refine appK_a ?_) | (with_reducible refine freshQ_i (fun _ _ => ?_)) | (with_reducible refine nilQ_i (fun _ _ => ?_)) | (with_reducible first | refine callH_use (hc _ _) ?_ | refine pureQ_use (hc _ _) ?_)))
          · rename_i hcmp
            obtain ⟨hys, hj, hjm, hmm, gsw⟩ := HY.out
            refine ⟨_, St.le.refl _, ⟨P, y :: P2, by rw [gsw], by omega, by simp only [List.length_cons]; omega, by simpa using hs1, by simpa using hs2, fun z hz => ?_⟩, by omega⟩
            rcases List.mem_cons.1 hz with rfl | hz
            · exact hcmp
            · exact hP2 z hz
          · rename_i hcmp
            obtain ⟨hys, hj, hjm, hmm, gsw⟩ := HY.out
            have hs0 : Srt (ltB cf) (P ++ [y]) := by simpa using hs1.left
            obtain ⟨k1, M2, hh⟩ := H.out.2.2 (P.concat y) P2 hPP (ins_done o hs1 hs2 hP2 (by simpa using last_le o hs0 hcmp))
            rw [hys]
            exact ⟨_, St.le.refl _, k1, M2, hh⟩
          all_goals (exfalso; rename_i h; simp only [decide_eq_false_iff_not] at h; have := HY.out.2.2.1; have := HY.out.2.2.2.1; omega)
    · have e1 : decide ((i : Int) < b) = false := by simp; omega
      have hM : M.drop (i - a) = [] := List.drop_of_length_le (by omega)
      have hT : M.take (i - a) = M := List.take_of_length_le (by omega)
      rw [hT] at hst
      rw [hM]
      (repeat' (first | (simp (config := { maxDischargeDepth := 16 }) only [*, ↓vD, vU, VE.ev, VE.evs, retvs, tupOf, grab, vfill, vbsl, eqCells, eqCell, veqs, veqs1, vmnx, AV.isCell, AV.isUndef, Nat.reduceEqDiff, Nat.reduceAdd, Nat.reduceSub, Nat.reduceLeDiff, Nat.reduceLT, reduceIte, reduceCtorEq, Nat.reduceBEq, k_app, k_slc1]) | (with_reducible refine gs (fun _ => ?_) (fun _ => ?_)) | (with_reducible refine cs_ (fun _ => ?_) (fun _ => ?_)) | (with_reducible refine objQ_i (fun _ _ => ?_); (repeat (with_reducible refine imp_i (fun _ => ?_)))) | (with_reducible refine appK_a ?_) | (with_reducible refine freshQ_i (fun _ _ => ?_)) | (with_reducible refine nilQ_i (fun _ _ => ?_))))
      exact ⟨_, St.le.refl _, M1, rfl, hsr, hst⟩
end Go.Proofs.Ytddbnncimggogaa.V.SoSeg
end
section
set_option linter.unusedSimpArgs false
set_option linter.unusedVariables false
/- slices.SortStableFunc at livery/api.Seg: the merge of two rows, the whole. -/
namespace Go.Proofs.Ytddbnncimggogaa.V.SoSeg
open Go Go.Proofs Go.Proofs.Ytddbnncimggogaa.SP
set_option maxRecDepth 100000
variable {α : Type} [Inhabited α] {Z : Im}
end Go.Proofs.Ytddbnncimggogaa.V.SoSeg
end
section
set_option linter.unusedSimpArgs false
set_option linter.unusedVariables false
/- slices.SortStableFunc at livery/api.Seg: the merge, the whole. -/
namespace Go.Proofs.Ytddbnncimggogaa.V.SoSeg
open Go Go.Proofs Go.Proofs.Ytddbnncimggogaa.SP
set_option maxRecDepth 100000
variable {α : Type} [Inhabited α] {Z : Im}
end Go.Proofs.Ytddbnncimggogaa.V.SoSeg
end
section
set_option linter.unusedSimpArgs false
set_option linter.unusedVariables false
/- rle.folded, Of, Box. -/
namespace Go.Proofs.Ytddbnncimggogaa.V
open Go Go.Proofs Go.Proofs.Ytddbnncimggogaa.SP
set_option maxRecDepth 100000
theorem Seg.ok (x : Seg) : okEl 3 x.a = true := rfl
theorem Seg.ag (x : Seg) : AV.agg x.a.cells = x.a := rfl
end Go.Proofs.Ytddbnncimggogaa.V
end
section
set_option linter.unusedSimpArgs false
set_option linter.unusedVariables false
/- rle.folded, Of, Box. -/
namespace Go.Proofs.Ytddbnncimggogaa.V
open Go Go.Proofs Go.Proofs.Ytddbnncimggogaa.SP
set_option maxRecDepth 100000
set_option maxHeartbeats 4000000
end Go.Proofs.Ytddbnncimggogaa.V
end
section
set_option linter.unusedSimpArgs false
set_option linter.unusedVariables false
/- (calc.joint).made. -/
namespace Go.Proofs.Ytddbnncimggogaa.V
open Go Go.Proofs
set_option maxRecDepth 100000
set_option maxHeartbeats 4000000
end Go.Proofs.Ytddbnncimggogaa.V
end
section
set_option linter.unusedSimpArgs false
set_option linter.unusedVariables false
/- calc: Sub, Min, Max, Range, Add. -/
namespace Go.Proofs.Ytddbnncimggogaa.V
open Go Go.Proofs
set_option maxRecDepth 100000
set_option maxHeartbeats 4000000
end Go.Proofs.Ytddbnncimggogaa.V
end
section
set_option linter.unusedSimpArgs false
set_option linter.unusedVariables false
/- liveryref03.LE. -/
namespace Go.Proofs.Ytddbnncimggogaa.V
open Go Go.Proofs
set_option maxRecDepth 100000
set_option maxHeartbeats 4000000
end Go.Proofs.Ytddbnncimggogaa.V
end
section
set_option linter.unusedSimpArgs false
set_option linter.unusedVariables false
/- calc.LE. -/
namespace Go.Proofs.Ytddbnncimggogaa.V
open Go Go.Proofs
set_option maxRecDepth 100000
set_option maxHeartbeats 4000000
end Go.Proofs.Ytddbnncimggogaa.V
end
section
set_option linter.unusedSimpArgs false
set_option linter.unusedVariables false
/- What calc's functions mean: plain. -/
namespace Go.Proofs.Ytddbnncimggogaa.V
open Go Go.Proofs Go.Proofs.Ytddbnncimggogaa.SP
/-! ### Rising rows of times -/
/-! ### What may be -/
def mayL : List Seg → Vec → Int → Bool
  | [], _, _ => true
  | x :: r, l, a => !odd l a x && mayL r x.v x.t
def oddG (l : Vec) (a : Int) (xs : List Seg) (k : Nat) : Bool := (xs[k]?.map (odd (if k = 0 then l else (xs[k - 1]?.map (·.v)).getD v0) (if k = 0 then a else (xs[k - 1]?.map (·.t)).getD 0))).getD false
theorem mayL_any : ∀ (xs : List Seg) (l : Vec) (a : Int), (List.range xs.length).any (oddG l a xs) = !mayL xs l a
  | [], l, a => rfl
  | x :: r, l, a => by
    have ih := mayL_any r x.v x.t
    rw [List.length_cons, List.range_succ_eq_map, List.any_cons, List.any_map]
    have e : (oddG l a (x :: r)) ∘ Nat.succ = oddG x.v x.t r := by
      funext k
      cases k with
      | zero => simp [oddG]
      | succ k => simp [oddG]
    rw [e, ih]
    simp [oddG, mayL]
theorem mayF_L (xs : List Seg) : mayF xs = mayL xs v0 (-1125899906842625) := by
  have h := mayL_any xs v0 (-1125899906842625)
  have e : oddI xs = oddG v0 (-1125899906842625) xs := by funext k; rfl
  unfold mayF
  rw [e, h]; simp
theorem mayL_iff : ∀ (xs : List Seg) (l : Vec) (a : Int), mayL xs l a = true ↔ Canon xs l ∧ (∀ x ∈ xs, inSeg x = true) ∧ ∀ x ∈ xs, a < x.t
  | [], l, a => by simp [mayL, Canon]
  | x :: r, l, a => by
    rw [mayL, Bool.and_eq_true, mayL_iff r x.v x.t, Canon]
    have ho : (!odd l a x) = true ↔ inSeg x = true ∧ ¬ x.v = l ∧ a < x.t := by
      unfold odd
      simp only [Bool.not_eq_true', Bool.or_eq_false_iff, beq_eq_false_iff_ne, ne_eq, decide_eq_false_iff_not, Bool.not_eq_false']
      constructor
      · rintro ⟨⟨h1, h2⟩, h3⟩; exact ⟨h1, h2, by omega⟩
      · rintro ⟨h1, h2, h3⟩; exact ⟨⟨h1, h2⟩, by omega⟩
    rw [ho]
    constructor
    · rintro ⟨⟨h1, h2, h3⟩, h4, h5, h6⟩
      refine ⟨⟨h2, h6, h4⟩, fun y hy => ?_, fun y hy => ?_⟩
      · rcases List.mem_cons.1 hy with rfl | hy
        · exact h1
        · exact h5 y hy
      · rcases List.mem_cons.1 hy with rfl | hy
        · exact h3
        · have := h6 y hy; omega
    · rintro ⟨⟨h2, h6, h4⟩, h5, h7⟩
      exact ⟨⟨h5 x (by simp), h2, h7 x (by simp)⟩, h4, fun y hy => h5 y (by simp [hy]), h6⟩
theorem mayF_iff (xs : List Seg) : mayF xs = true ↔ Canon xs v0 ∧ ∀ x ∈ xs, inSeg x = true := by
  rw [mayF_L, mayL_iff]
  refine ⟨fun h => ⟨h.1, h.2.1⟩, fun h => ⟨h.1, h.2, fun x hx => ?_⟩⟩
  have := h.2 x hx
  unfold inSeg inR at this
  simp only [Bool.and_eq_true, decide_eq_true_eq] at this
  omega
theorem Canon.up : ∀ {xs : List Seg} {l : Vec}, Canon xs l → (xs.map (·.t)).Pairwise (· < ·)
  | [], _, _ => List.Pairwise.nil
  | x :: r, l, h => by
    rw [List.map_cons, List.pairwise_cons]
    refine ⟨fun z hz => ?_, h.2.2.up⟩
    obtain ⟨y, hy, rfl⟩ := List.mem_map.1 hz
    exact h.2.1 y hy
/-! ### Both at once -/
end Go.Proofs.Ytddbnncimggogaa.V
end
section
set_option linter.unusedSimpArgs false
set_option linter.unusedVariables false
/- calc's functions are the document's: plain. -/
namespace Go.Proofs.Ytddbnncimggogaa.V
open Go Go.Proofs Go.Proofs.Ytddbnncimggogaa.SP
theorem inR_iff (n : Int) : inR n = true ↔ -1125899906842624 ≤ n ∧ n ≤ 1125899906842624 := by unfold inR; simp
theorem mayV_iff (v : Vec) : mayV v = true ↔ (-1125899906842624 ≤ v.m ∧ v.m ≤ 1125899906842624) ∧ (-1125899906842624 ≤ v.c ∧ v.c ≤ 1125899906842624) := by
  unfold mayV; rw [Bool.and_eq_true, inR_iff, inR_iff]
theorem atF_may {f : List Seg} (h : ∀ x ∈ f, inSeg x = true) (t : Int) : mayV (atF f t) = true := by
  unfold atF
  have : ∀ (l : List Seg) (v : Vec), (∀ x ∈ l, inSeg x = true) → mayV v = true → mayV (l.foldl (fun v x => if x.t ≤ t then x.v else v) v) = true := by
    intro l
    induction l with
    | nil => intro v _ hv; exact hv
    | cons x l ih =>
      intro v hl hv
      rw [List.foldl_cons]
      refine ih _ (fun y hy => hl y (by simp [hy])) ?_
      split
      · have := hl x (by simp)
        unfold inSeg at this
        rw [Bool.and_eq_true] at this
        exact this.2
      · exact hv
  exact this f v0 h rfl
/-! ### Values one behind the other -/
/-! ### The document's function of two -/
/-! ### The program's way -/
end Go.Proofs.Ytddbnncimggogaa.V
end
section
set_option linter.unusedSimpArgs false
set_option linter.unusedVariables false
/- Begins of legs that are cut in two, and of legs with one of nothing ahead: plain. -/
namespace Go.Proofs.Ytddbnncimggogaa.V
open Go Go.Proofs
/-- Rows that don't touch each other. -/
def RowsG (lo hi : Int) : List Vec → Prop
  | [] => True
  | w :: r => lo ≤ w.m ∧ w.m < w.c ∧ w.c ≤ hi ∧ RowsG (w.c + 1) hi r
def inW (w : Vec) (t : Int) : Prop := w.m ≤ t ∧ t < w.c
def memW (l : List Vec) (t : Int) : Prop := ∃ w ∈ l, inW w t
theorem memW_nil (t : Int) : memW [] t ↔ False := by simp [memW]
theorem memW_cons (w : Vec) (r : List Vec) (t : Int) : memW (w :: r) t ↔ inW w t ∨ memW r t := by simp [memW]
theorem memW_app (a b : List Vec) (t : Int) : memW (a ++ b) t ↔ memW a t ∨ memW b t := by
  induction a with
  | nil => simp [memW_nil]
  | cons w r ih => rw [List.cons_append, memW_cons, memW_cons, ih, or_assoc]
theorem RowsG.mono {lo lo' hi : Int} (h : lo' ≤ lo) : ∀ {l : List Vec}, RowsG lo hi l → RowsG lo' hi l
  | [], _ => trivial
  | w :: r, ⟨a, b⟩ => ⟨by omega, b⟩
theorem RowsG.rows {hi : Int} : ∀ {l : List Vec} {lo : Int}, RowsG lo hi l → Rows lo hi l
  | [], _, _ => trivial
  | w :: r, _, ⟨a, b, c, d⟩ => ⟨a, b, c, d.rows.mono (by omega)⟩
theorem RowsG.low {hi t : Int} : ∀ {l : List Vec} {lo : Int}, RowsG lo hi l → memW l t → lo ≤ t
  | [], _, _, h => absurd h (by simp [memW])
  | w :: r, lo, ⟨a, b, c, d⟩, h => by
    rcases (memW_cons _ _ _).1 h with h | h
    · have := h.1; omega
    · have := d.low h; omega
theorem RowsG.head {hi t lo : Int} {w : Vec} {r : List Vec} (h : RowsG lo hi (w :: r)) (hm : memW (w :: r) t) : w.m ≤ t := RowsG.low (l := w :: r) (lo := w.m) (hi := hi) ⟨Int.le_refl _, h.2⟩ hm
theorem RowsG.uniq : ∀ {a b : List Vec} {lo lo' hi hi' : Int}, RowsG lo hi a → RowsG lo' hi' b → (∀ t, memW a t ↔ memW b t) → a = b
  | [], [], _, _, _, _, _, _, _ => rfl
  | [], w :: r, _, _, _, _, _, hb, h => by
    have := (h w.m).2 ((memW_cons _ _ _).2 (.inl ⟨Int.le_refl _, hb.2.1⟩))
    exact absurd this (by simp [memW])
  | w :: r, [], _, _, _, _, ha, _, h => by
    have := (h w.m).1 ((memW_cons _ _ _).2 (.inl ⟨Int.le_refl _, ha.2.1⟩))
    exact absurd this (by simp [memW])
  | w :: r, w' :: r', lo, lo', hi, hi', ha, hb, h => by
    have h1 : w'.m ≤ w.m := hb.head ((h w.m).1 ((memW_cons _ _ _).2 (.inl ⟨Int.le_refl _, ha.2.1⟩)))
    have h2 : w.m ≤ w'.m := ha.head ((h w'.m).2 ((memW_cons _ _ _).2 (.inl ⟨Int.le_refl _, hb.2.1⟩)))
    have hm : w.m = w'.m := by omega
    have a2 := ha.2.1
    have b2 := hb.2.1
    have hc : w.c = w'.c := by
      rcases Int.lt_trichotomy w.c w'.c with hlt | heq | hgt
      · have := (h w.c).2 ((memW_cons _ _ _).2 (.inl ⟨by omega, hlt⟩))
        rcases (memW_cons _ _ _).1 this with q | q
        · have := q.2; omega
        · have := ha.2.2.2.low q; omega
      · exact heq
      · have := (h w'.c).1 ((memW_cons _ _ _).2 (.inl ⟨by omega, hgt⟩))
        rcases (memW_cons _ _ _).1 this with q | q
        · have := q.2; omega
        · have := hb.2.2.2.low q; omega
    have he : w = w' := by cases w; cases w'; simp only at hm hc; rw [hm, hc]
    subst he
    have hr : r = r' := RowsG.uniq ha.2.2.2 hb.2.2.2 (fun t => by
      constructor
      · intro q
        have hl := ha.2.2.2.low q
        rcases (memW_cons _ _ _).1 ((h t).1 ((memW_cons _ _ _).2 (.inr q))) with q2 | q2
        · have := q2.2; omega
        · exact q2
      · intro q
        have hl := hb.2.2.2.low q
        rcases (memW_cons _ _ _).1 ((h t).2 ((memW_cons _ _ _).2 (.inr q))) with q2 | q2
        · have := q2.2; omega
        · exact q2)
    rw [hr]
theorem RowsG.app {mid hi : Int} : ∀ {a : List Vec} {lo : Int} {b : List Vec}, RowsG lo mid a → RowsG (mid + 1) hi b → lo ≤ mid + 1 → mid ≤ hi → RowsG lo hi (a ++ b)
  | [], _, _, _, h, h1, _ => h.mono h1
  | w :: r, lo, b, ⟨a1, a2, a3, a4⟩, h, h1, h2 => ⟨a1, a2, by omega, RowsG.app a4 h (by omega) h2⟩
theorem cutW_G (x w : Vec) (h : w.m < w.c) (hx : x.m < x.c) : RowsG w.m w.c (cutW x w) := by
  simp only [cutW, Int.min_def, Int.max_def]
  (repeat' split) <;> simp only [RowsG, List.nil_append, List.cons_append, and_true] <;> omega
theorem RowsG.without {x : Vec} (hx : x.m < x.c) {hi : Int} : ∀ {l : List Vec} {lo : Int}, RowsG lo hi l → RowsG lo hi (withoutF l x)
  | [], _, _ => trivial
  | w :: r, lo, ⟨a, b, c, d⟩ => RowsG.app ((cutW_G x w b hx).mono a) (RowsG.without hx d) (by omega) c
theorem memW_if (c : Prop) [Decidable c] (w : Vec) (t : Int) : memW (if c then [w] else []) t ↔ c ∧ inW w t := by
  split <;> simp [*, memW]
theorem memW_cut (x w : Vec) (t : Int) : memW (cutW x w) t ↔ inW w t ∧ ¬ inW x t := by
  simp only [cutW, memW_app, memW_if, inW]
  omega
theorem memW_without (x : Vec) (t : Int) : ∀ (l : List Vec), memW (withoutF l x) t ↔ memW l t ∧ ¬ inW x t
  | [] => by simp [withoutF, memW_nil]
  | w :: r => by
    rw [withoutF, memW_app, memW_cut, memW_without x t r, memW_cons]
    constructor
    · rintro (⟨a, b⟩ | ⟨a, b⟩)
      · exact ⟨.inl a, b⟩
      · exact ⟨.inr a, b⟩
    · rintro ⟨a | a, b⟩
      · exact .inl ⟨a, b⟩
      · exact .inr ⟨a, b⟩
theorem memW_cuts (d a t : Int) : ∀ (bads out : List Vec), memW (cutsF d a bads out) t ↔ memW out t ∧ ∀ b ∈ bads, ¬ inW (shiftW d a b) t
  | [], out => by simp [cutsF]
  | b :: r, out => by
    rw [cutsF, memW_cuts d a t r, memW_without]
    simp only [List.mem_cons, forall_eq_or_imp, and_assoc]
theorem cuts_G {d a lo hi : Int} (hd : 1 ≤ d) : ∀ (bads : List Vec) (out : List Vec), (∀ b ∈ bads, b.m < b.c) → RowsG lo hi out → RowsG lo hi (cutsF d a bads out)
  | [], out, _, h => h
  | b :: r, out, hb, h => cuts_G hd r _ (fun x hx => hb x (by simp [hx])) (h.without (by have := hb b (by simp); simp only [shiftW]; omega))
/-- No leg, the first of which begins so much behind a time, stands on a low window. -/
def okL (f : List Seg) (w : Vec) : List Leg → Int → Int → Prop
  | [], _, _ => True
  | x :: r, a, t => (∀ b ∈ lowF f w x.v, ¬ inW (shiftW x.d a b) t) ∧ okL f w r (a + x.d) t
theorem memW_legs (f : List Seg) (w : Vec) (t : Int) : ∀ (l : List Leg) (a : Int) (out : List Vec), memW (legsF f w l a out) t ↔ memW out t ∧ okL f w l a t
  | [], a, out => by simp [legsF, okL]
  | x :: r, a, out => by rw [legsF, memW_legs f w t r, memW_cuts, okL, and_assoc]
theorem legs_G {f : List Seg} {w : Vec} (hf : ∀ v, ∀ b ∈ lowF f w v, b.m < b.c) {lo hi : Int} : ∀ (l : List Leg) (a : Int) (out : List Vec), (∀ x ∈ l, 1 ≤ x.d) → RowsG lo hi out → RowsG lo hi (legsF f w l a out)
  | [], _, _, _, h => h
  | x :: r, a, out, hl, h => legs_G hf r _ _ (fun y hy => hl y (by simp [hy])) (cuts_G (hl x (by simp)) _ _ (hf x.v) h)
theorem okL_app (f : List Seg) (w : Vec) (t : Int) : ∀ (l m : List Leg) (a : Int), okL f w (l ++ m) a t ↔ okL f w l a t ∧ okL f w m (a + sumD l) t
  | [], m, a => by simp [okL, sumD]
  | x :: r, m, a => by
    rw [List.cons_append, okL, okL, okL_app f w t r m, sumD, and_assoc, show a + x.d + sumD r = a + (x.d + sumD r) by omega]
theorem okL_shift (f : List Seg) (w : Vec) (t c : Int) : ∀ (l : List Leg) (a : Int), okL f w l (a + c) t ↔ okL f w l a (t + c)
  | [], a => by simp [okL]
  | x :: r, a => by
    rw [okL, okL, show a + c + x.d = (a + x.d) + c by omega, okL_shift f w t c r]
    have : ∀ b, inW (shiftW x.d (a + c) b) t ↔ inW (shiftW x.d a b) (t + c) := fun b => by simp only [inW, shiftW]; omega
    simp only [this]
/-- The low windows are windows. -/
theorem lowGo_ne {w v : Vec} (hw : w.m < w.c) : ∀ (r : List Seg) (p : Int) (u l : Vec), Canon r l → (∀ z ∈ r, p < z.t ∨ z.t ≤ w.m) → p < w.c → ∀ b ∈ lowGo w v r p u, b.m < b.c
  | [], p, u, _, _, _, h, b, hb => by
    unfold lowGo at hb
    split at hb
    · cases hb
    · simp at hb; subst hb; exact h
  | x :: r, p, u, l, hc, hz, h, b, hb => by
    unfold lowGo at hb
    split at hb
    · exact lowGo_ne hw r p u x.v hc.2.2 (fun z h => hz z (by simp [h])) h b hb
    · rename_i hs
      have hx := hz x (by simp)
      have hr := lowGo_ne (v := v) hw r x.t x.v x.v hc.2.2 (fun z h => .inl (hc.2.1 z h)) (by omega) b
      split at hb
      · exact hr hb
      · rcases List.mem_cons.1 hb with rfl | hb
        · simp only; omega
        · exact hr hb
theorem lowF_ne {f : List Seg} (hf : mayF f = true) {w : Vec} (hw : w.m < w.c) (v : Vec) : ∀ b ∈ lowF f w v, b.m < b.c :=
  lowGo_ne hw f w.m _ v0 ((mayF_iff f).1 hf).1 (fun z _ => by omega) hw
theorem lowGo_nil {w v : Vec} : ∀ (r : List Seg) (p : Int) (u : Vec), (∀ x ∈ r, leW v x.v = true) → leW v u = true → lowGo w v r p u = []
  | [], p, u, _, h => by unfold lowGo; rw [if_pos h]
  | x :: r, p, u, hr, h => by
    unfold lowGo
    split
    · exact lowGo_nil r p u (fun y hy => hr y (by simp [hy])) h
    · try rw [if_pos h]
      exact lowGo_nil r x.t x.v (fun y hy => hr y (by simp [hy])) (hr x (by simp))
theorem lowF_nil {f : List Seg} (hf : mayF f = true) (w : Vec) : lowF f w ⟨-1125899906842624, -1125899906842624⟩ = [] := by
  have key : ∀ v, mayV v = true → leW ⟨-1125899906842624, -1125899906842624⟩ v = true := fun v h => by
    have := (mayV_iff v).1 h
    simp only [leW, Bool.and_eq_true, decide_eq_true_eq]; omega
  refine lowGo_nil f _ _ (fun x hx => key _ ?_) (key _ (atF_may ((mayF_iff f).1 hf).2 _))
  have := ((mayF_iff f).1 hf).2 x hx
  unfold inSeg at this
  exact (Bool.and_eq_true _ _ ▸ this).2
/-- What is known when there are no errors. -/
structure OkB (f : List Seg) (w : Vec) (l : List Leg) : Prop where
  may : mayF f = true
  win : w.m < w.c
  span : w.c - w.m ≤ 4096
  from_ : farF w.m = false
  to_ : farF w.c = false
  vs : l.any (fun x => !mayV x.v) = false
  ds : l.any badD = false
  len : 0 < l.length ∧ l.length ≤ 16
theorem check_ok {f : List Seg} {w : Vec} {l : List Leg} : (checkF f w l).2 = 0 ↔ OkB f w l := by
  constructor
  · intro h
    unfold checkF at h
    split at h
    · rename_i hm
      split at h
      · cases h
      · rename_i h1
        split at h
        · cases h
        · rename_i h2
          simp only [Bool.or_eq_true, not_or, Bool.not_eq_true] at h2
          have hl : (lengthF l).2 = 0 := by omega
          unfold lengthF at hl
          split at hl
          · cases hl
          · rename_i h3
            simp only [Bool.or_eq_true, not_or, Bool.not_eq_true, decide_eq_false_iff_not] at h3
            exact ⟨hm, by omega, by omega, h2.1.1, h2.1.2, h2.2, h3.1.1, by omega⟩
    · cases h
  · intro h
    have hl : lengthF l = (sumD l, 0) := by
      unfold lengthF
      rw [if_neg]
      have := h.len
      rw [h.ds]; simp only [Bool.false_or, Bool.or_eq_true, decide_eq_true_eq]; omega
    unfold checkF
    rw [if_pos h.may, hl, if_neg (by have := h.win; have := h.span; simp; omega), h.from_, h.to_, h.vs]
    rfl
theorem check_1 {f : List Seg} {w : Vec} {l : List Leg} (h : OkB f w l) : checkF f w l = (sumD l, 0) := by
  have hl : lengthF l = (sumD l, 0) := by
    unfold lengthF
    rw [if_neg]
    have := h.len
    rw [h.ds]; simp only [Bool.false_or, Bool.or_eq_true, decide_eq_true_eq]; omega
  unfold checkF
  rw [if_pos h.may, hl, if_neg (by have := h.win; have := h.span; simp; omega), h.from_, h.to_, h.vs]
  rfl
theorem begins_err (f : List Seg) (w : Vec) (l : List Leg) : (beginsF f w l).2 = (checkF f w l).2 := by
  unfold beginsF
  split
  · rfl
  · rename_i h
    simp only at h ⊢
    omega
theorem OkB.pos {f : List Seg} {w : Vec} {l : List Leg} (h : OkB f w l) : ∀ x ∈ l, 1 ≤ x.d ∧ x.d ≤ 4096 := fun x hx => by
  have := List.any_eq_false.1 h.ds x hx
  simp [badD] at this
  omega
theorem begins_is {f : List Seg} {w : Vec} {l : List Leg} (h : OkB f w l) : RowsG w.m (w.c + 1) (beginsF f w l).1 ∧ ∀ t, memW (beginsF f w l).1 t ↔ w.m ≤ t ∧ t + sumD l ≤ w.c ∧ okL f w l 0 t := by
  have hs : 0 ≤ sumD l := by
    have := h.pos
    clear h
    induction l with
    | nil => simp [sumD]
    | cons x r ih => have := ih (fun y hy => this y (by simp [hy])); have := this; simp only [sumD]; have := ‹∀ y ∈ x :: r, _› x (by simp); omega
  unfold beginsF
  rw [check_1 h]
  by_cases hn : w.c - w.m < sumD l
  · rw [if_pos (.inr hn)]
    refine ⟨trivial, fun t => ?_⟩
    rw [memW_nil]
    constructor
    · exact False.elim
    · intro ⟨a, b, _⟩; omega
  · rw [if_neg (by simp only; omega)]
    have hw := h.win
    refine ⟨legs_G (fun v => lowF_ne h.may hw v) l 0 _ (fun x hx => (h.pos x hx).1) ⟨Int.le_refl _, by simp only; omega, by simp only; omega, trivial⟩, fun t => ?_⟩
    rw [memW_legs, memW_cons, memW_nil]
    simp only [inW, or_false]
    constructor
    · intro ⟨⟨a, b⟩, c⟩; exact ⟨a, by omega, c⟩
    · intro ⟨a, b, c⟩; exact ⟨⟨a, by omega⟩, c⟩
/-- A leg that is cut in two. -/
def cutL (l : List Leg) (k : Nat) (n : Int) (x : Leg) : List Leg := l.take k ++ [⟨n, x.v⟩, ⟨x.d - n, x.v⟩] ++ l.drop (k + 1)
theorem slot_cut {f : List Seg} {w : Vec} {l : List Leg} (h : OkB f w l) {k : Nat} (hk : k < l.length) (hl : l.length ≤ 14) {n : Int} {x : Leg} (hx : l[k] = x) (h1 : 1 ≤ n) (h2 : n < x.d) : beginsF f w (cutL l k n x) = ((beginsF f w l).1, 0) := by
  have hsplit : l = l.take k ++ (x :: l.drop (k + 1)) := by rw [← hx, ← List.drop_eq_getElem_cons hk, List.take_append_drop]
  obtain ⟨p, hp⟩ : ∃ p, l.take k = p := ⟨_, rfl⟩
  obtain ⟨q, hq⟩ : ∃ q, l.drop (k + 1) = q := ⟨_, rfl⟩
  unfold cutL
  rw [hp, hq] at hsplit ⊢
  subst hsplit
  have hd := h.pos x (by simp)
  have hO : OkB f w (p ++ [⟨n, x.v⟩, ⟨x.d - n, x.v⟩] ++ q) := by
    refine ⟨h.may, h.win, h.span, h.from_, h.to_, ?_, ?_, ?_⟩
    · have := h.vs
      simp only [List.any_append, List.any_cons, List.any_nil, Bool.or_eq_false_iff] at this ⊢
      exact ⟨⟨this.1, this.2.1, this.2.1, trivial⟩, this.2.2⟩
    · have := h.ds
      simp only [List.any_append, List.any_cons, List.any_nil, Bool.or_eq_false_iff] at this ⊢
      refine ⟨⟨this.1, ?_, ?_, trivial⟩, this.2.2⟩ <;> (simp only [badD, Bool.or_eq_false_iff, decide_eq_false_iff_not]; omega)
    · simp at hl ⊢; omega
  obtain ⟨a1, a2⟩ := begins_is h
  obtain ⟨b1, b2⟩ := begins_is hO
  have hsum : sumD (p ++ [⟨n, x.v⟩, ⟨x.d - n, x.v⟩] ++ q) = sumD (p ++ x :: q) := by
    simp only [sumD_app, sumD]; omega
  have he : (beginsF f w (p ++ [⟨n, x.v⟩, ⟨x.d - n, x.v⟩] ++ q)).1 = (beginsF f w (p ++ x :: q)).1 := by
    refine RowsG.uniq b1 a1 (fun t => ?_)
    rw [a2, b2, hsum]
    simp only [okL_app, okL, sumD, Int.zero_add, sumD_app, Int.add_zero]
    rw [show sumD p + (n + (x.d - n)) = sumD p + x.d by omega]
    have hb : (∀ b ∈ lowF f w x.v, ¬ inW (shiftW x.d (sumD p) b) t) ↔ ((∀ b ∈ lowF f w x.v, ¬ inW (shiftW n (sumD p) b) t) ∧ ∀ b ∈ lowF f w x.v, ¬ inW (shiftW (x.d - n) (sumD p + n) b) t) := by
      have hne := lowF_ne h.may h.win x.v
      constructor
      · intro hh
        refine ⟨fun b hb hi => hh b hb ?_, fun b hb hi => hh b hb ?_⟩
        · simp only [inW, shiftW] at hi ⊢; omega
        · simp only [inW, shiftW] at hi ⊢; omega
      · rintro ⟨g1, g2⟩ b hb hi
        have := hne b hb
        by_cases hc : inW (shiftW n (sumD p) b) t
        · exact g1 b hb hc
        · refine g2 b hb ?_
          simp only [inW, shiftW] at hi hc ⊢; omega
    rw [hb]
    simp only [and_assoc, true_and]
  have he2 : (beginsF f w (p ++ [⟨n, x.v⟩, ⟨x.d - n, x.v⟩] ++ q)).2 = 0 := by rw [begins_err, check_1 hO]
  rw [← he, ← he2]
/-- How many times rows have. -/
def sumW : List Vec → Int
  | [] => 0
  | w :: r => w.c - w.m + sumW r
def backW (l : List Vec) : List Vec := l.map fun w => ⟨w.m - 1, w.c - 1⟩
theorem sumW_back : ∀ l : List Vec, sumW (backW l) = sumW l
  | [] => rfl
  | w :: r => by
    have := sumW_back r
    simp only [backW, List.map_cons, sumW] at this ⊢
    rw [this]; omega
theorem memW_back (t : Int) : ∀ l : List Vec, memW (backW l) t ↔ memW l (t + 1)
  | [] => by simp [backW, memW_nil]
  | w :: r => by
    have := memW_back t r
    simp only [backW, List.map_cons, memW_cons] at this ⊢
    rw [this]
    simp only [inW]
    constructor
    · rintro (q | q)
      · left; omega
      · exact .inr q
    · rintro (q | q)
      · left; omega
      · exact .inr q
theorem back_G {hi : Int} : ∀ {l : List Vec} {lo : Int}, RowsG lo hi l → RowsG (lo - 1) hi (backW l)
  | [], _, _ => trivial
  | w :: r, lo, ⟨a, b, c, d⟩ => by
    have := (back_G d).mono (show w.c - 1 + 1 ≤ w.c + 1 - 1 by omega)
    simp only [backW, List.map_cons, RowsG] at this ⊢
    exact ⟨by omega, by omega, by omega, this⟩
theorem sumW_app (a b : List Vec) : sumW (a ++ b) = sumW a + sumW b := by
  induction a with
  | nil => simp [sumW]
  | cons w r ih => simp only [List.cons_append, sumW, ih]; omega
theorem sumW_far {x : Vec} {hi : Int} : ∀ {l : List Vec} {lo : Int}, RowsG lo hi l → x.c ≤ lo → x.m < x.c → sumW (withoutF l x) = sumW l
  | [], _, _, _, _ => rfl
  | w :: r, lo, ⟨a, b, c, d⟩, h, hx => by
    rw [withoutF, sumW_app, sumW_far d (by omega) hx, sumW]
    unfold cutW
    rw [if_neg (by omega), if_pos (by omega)]
    simp only [List.nil_append, sumW]; omega
theorem sumW_first {m hi : Int} : ∀ {l : List Vec}, RowsG m hi l → sumW (withoutF l ⟨m, m + 1⟩) = sumW l - (if (l.head?.map (·.m)) = some m then 1 else 0)
  | [], _ => rfl
  | w :: r, ⟨a, b, c, d⟩ => by
    rw [withoutF, sumW_app, sumW_far d (by simp only; omega) (by simp only; omega), sumW]
    simp only [List.head?_cons, Option.map_some, Option.some.injEq]
    unfold cutW
    simp only
    rw [if_neg (by omega)]
    by_cases hm : w.m = m
    · rw [if_pos hm]
      split <;> simp only [List.nil_append, sumW] <;> omega
    · rw [if_neg hm, if_pos (by omega)]
      simp only [List.nil_append, sumW]; omega
def noneL : Leg := ⟨1, ⟨-1125899906842624, -1125899906842624⟩⟩
theorem slot_none {f : List Seg} {w : Vec} {l : List Leg} (h : OkB f w l) (hl : l.length ≤ 14) :
    (beginsF f w (noneL :: l)).2 = 0 ∧ sumW (beginsF f w (noneL :: l)).1 = sumW (beginsF f w l).1 - (if ((beginsF f w l).1.head?.map (·.m)) = some w.m then 1 else 0) := by
  have hO : OkB f w (noneL :: l) := by
    refine ⟨h.may, h.win, h.span, h.from_, h.to_, ?_, ?_, ?_⟩
    · have := h.vs
      simp only [List.any_cons, this, Bool.or_false]
      decide
    · have := h.ds
      simp only [List.any_cons, this, Bool.or_false]
      decide
    · simp; omega
  refine ⟨by rw [begins_err, check_1 hO], ?_⟩
  obtain ⟨a1, a2⟩ := begins_is h
  obtain ⟨b1, b2⟩ := begins_is hO
  have he : (beginsF f w (noneL :: l)).1 = backW (withoutF (beginsF f w l).1 ⟨w.m, w.m + 1⟩) := by
    refine RowsG.uniq b1 (back_G (a1.without (by simp only; omega))) (fun t => ?_)
    rw [b2, memW_back, memW_without, a2]
    simp only [okL, sumD]
    have hnil : lowF f w noneL.v = [] := lowF_nil h.may w
    rw [hnil, okL_shift f w t noneL.d l 0]
    simp only [noneL, inW, List.not_mem_nil, false_implies, implies_true, true_and]
    constructor
    · intro ⟨q1, q2, q3⟩; exact ⟨⟨by omega, by omega, q3⟩, by omega⟩
    · intro ⟨⟨q1, q2, q3⟩, q4⟩; exact ⟨by omega, by omega, q3⟩
  rw [he, sumW_back, sumW_first a1]
end Go.Proofs.Ytddbnncimggogaa.V
end
section
set_option linter.unusedSimpArgs false
set_option linter.unusedVariables false
/- slot.Begins. -/
namespace Go.Proofs.Ytddbnncimggogaa.V
open Go Go.Proofs
set_option maxRecDepth 100000
set_option maxHeartbeats 4000000
theorem Begins_c (f : List Seg) (hf : f.length ≤ 1000000) (w : Vec) (h1 : -9223372036854775808 ≤ w.m) (h2 : w.c ≤ 9223372036854775807) (l : List Leg) (hl : l.length ≤ 1000000000) (t t' : Tok) :
    VPure Try.prog 42 [.sl (f.map Seg.a) t, .agg [.int .i64 w.m, .int .i64 w.c], .sl (l.map Leg.a) t'] (.tup [.sl ((beginsF f w l).1.map Vec.a) .no, num (beginsF f w l).2]) := by
  refine VPure.tokT (fun Z st => ?_)
  have hck := check_v f (by omega) w h1 h2 l hl t t'
  obtain ⟨q, hq⟩ : ∃ q, checkF f w l = q := ⟨_, rfl⟩
  rw [hq] at hck
  unfold num at hck
  by_cases hok : q.2 = 0
  case neg =>
    have HB : Hid (beginsF f w l = ([], q.2)) := ⟨by unfold beginsF; rw [hq, if_pos (.inl hok)]⟩
    clear hq
    refine VCalls.of v_slot_Begins_ok (Nat.le_of_ble_eq_true rfl) ?_
    simp only [v_slot_Begins, ↓vD, vU, VE.ev, VE.evs, retvs, tupOf, grab, vfill, vbsl, eqCells, eqCell, veqs, veqs1, vmnx, AV.isCell, AV.isUndef, Nat.reduceEqDiff, Nat.reduceAdd, Nat.reduceSub, Nat.reduceLeDiff, Nat.reduceLT, reduceIte, reduceCtorEq, Nat.reduceBEq, k_app, k_slc1]
    (repeat' (first | (simp (config := { maxDischargeDepth := 16 }) only [*, vX, Int.reduceLE, Int.reduceLT, Int.reduceGE, Int.reduceGT, Int.reduceBEq, Int.reduceBNe, Int.reduceAdd, Int.reduceSub, Int.reduceMul, Int.reduceNeg, ↓vD, vU, VE.ev, VE.evs, retvs, tupOf, grab, vfill, vbsl, eqCells, eqCell, veqs, veqs1, vmnx, AV.isCell, AV.isUndef, Nat.reduceEqDiff, Nat.reduceAdd, Nat.reduceSub, Nat.reduceLeDiff, Nat.reduceLT, reduceIte, reduceCtorEq, Nat.reduceBEq]) | (simp (disch := first | assumption | omega | exact Seg.len _ | exact Vec.len _ | exact Leg.len _ | exact num_len _ | exact rowA_len _ | exact rowA_len | exact rowT_len _ | exact rowT_len | exact Seg.len | exact Vec.len | exact Leg.len | exact num_len | exact AV.slen _ _ | rfl) only [vP]) | (with_reducible (first | refine gsnd (fun _ => ?_) (fun _ => ?_) | refine csnd (fun _ => ?_) (fun _ => ?_) | refine gsd (fun _ => ?_) (fun _ => ?_) | refine csd (fun _ => ?_) (fun _ => ?_) | refine gsn (fun _ => ?_) (fun _ => ?_) | refine csn (fun _ => ?_) (fun _ => ?_))) | (with_reducible refine gs (fun _ => ?_) (fun _ => ?_)) | (with_reducible refine cs_ (fun _ => ?_) (fun _ => ?_)) | (with_reducible refine objQ_i (fun _ _ => ?_); (repeat (with_reducible refine imp_i (fun _ => ?_)))) | ((try with_reducible refine appK_a ?_); first | (with_reducible refine appD_F (by refine ⟨?_, ?_, ?_, ?_⟩ <;> (first | assumption | omega | exact St.has_add (by assumption) | (simp only [ins_has]; exact St.has_add (by assumption)) | (simp only [ins_has, fresh_ins, kill_ins, add_ins] at *; exact St.has_add (by assumption)) | (simp only [*, ins_has, has_full, St.has_add]; done) | (simp [-List.map_take, -List.map_drop, or_imp, forall_and, Seg.a, Vec.a, Leg.a, num, okEl, cells_agg, cells_int, cells_sl, cells_bool, AV.isCell]; done) | (simp; omega))) (fun _ _ => ?_)) | (with_reducible refine appD_V (by refine ⟨?_, ?_, ?_, ?_, ?_⟩ <;> (first | assumption | omega | exact St.has_add (by assumption) | (simp only [ins_has]; exact St.has_add (by assumption)) | (simp only [ins_has, fresh_ins, kill_ins, add_ins] at *; exact St.has_add (by assumption)) | (simp only [*, ins_has, has_full, St.has_add]; done) | (simp [-List.map_take, -List.map_drop, or_imp, forall_and, Seg.a, Vec.a, Leg.a, num, okEl, cells_agg, cells_int, cells_sl, cells_bool, AV.isCell]; done) | (simp; omega))) (fun _ _ => ?_))) | (with_reducible refine freshQ_i (fun _ _ => ?_)) | (with_reducible refine nilQ_i (fun _ _ => ?_)) | (with_reducible first | refine callH_use (hck) ?_ | refine pureQ_use (hck) ?_)))
    exact ⟨st, by (refine ⟨fun i o e => ?_, fun _ h => h⟩; revert e; simp only [St.ins, St.del, add_objs, kill_objs]; (repeat' split); all_goals (first | exact id | (intros; contradiction) | (intros; subst_vars; contradiction) | (intros; simp_all; done) | (intros; subst_vars; simp_all; done))), .full, by rw [HB.out]; rfl, rfl⟩
  have hO := check_ok.1 (by rw [hq]; exact hok)
  have hs := check_1 hO
  rw [hq] at hs
  obtain ⟨n, hn⟩ : ∃ n, sumD l = n := ⟨_, rfl⟩
  rw [hn] at hs
  have HBn : Hid (beginsF f w l = if w.c - w.m < n then ([], 0) else (legsF f w l 0 [⟨w.m, w.c - n + 1⟩], 0)) := ⟨by unfold beginsF; rw [hq, hs]; simp⟩
  subst hs
  simp only at hck
  have hn0 : 0 ≤ n := by
    rw [← hn]
    have := hO.pos
    clear hO hq hn HBn hck
    induction l with
    | nil => simp [sumD]
    | cons x r ih => have h3 := ih (by simp at hl; omega) (fun y hy => this y (by simp [hy])); have h4 := this x (by simp); simp only [sumD]; omega
  have hw := hO.win
  have hsp := hO.span
  have hfr := hO.from_
  have hto := hO.to_
  simp only [farF, Bool.or_eq_false_iff, decide_eq_false_iff_not] at hfr hto
  obtain ⟨hf1, hf2⟩ := hfr
  obtain ⟨ht1, ht2⟩ := hto
  have hl16 := hO.len.2
  have HO := Hid.mk hO
  clear hq hn hok hO
  by_cases hbig : w.c - w.m < n
  · have hb2 : IntKind.i64.wrap (w.c - w.m) = w.c - w.m := wrap_i64 _ (by omega) (by omega)
    refine VCalls.of v_slot_Begins_ok (Nat.le_of_ble_eq_true rfl) ?_
    simp only [v_slot_Begins, ↓vD, vU, VE.ev, VE.evs, retvs, tupOf, grab, vfill, vbsl, eqCells, eqCell, veqs, veqs1, vmnx, AV.isCell, AV.isUndef, Nat.reduceEqDiff, Nat.reduceAdd, Nat.reduceSub, Nat.reduceLeDiff, Nat.reduceLT, reduceIte, reduceCtorEq, Nat.reduceBEq, k_app, k_slc1]
    (repeat' (first | (simp (config := { maxDischargeDepth := 16 }) only [*, vX, Int.reduceLE, Int.reduceLT, Int.reduceGE, Int.reduceGT, Int.reduceBEq, Int.reduceBNe, Int.reduceAdd, Int.reduceSub, Int.reduceMul, Int.reduceNeg, ↓vD, vU, VE.ev, VE.evs, retvs, tupOf, grab, vfill, vbsl, eqCells, eqCell, veqs, veqs1, vmnx, AV.isCell, AV.isUndef, Nat.reduceEqDiff, Nat.reduceAdd, Nat.reduceSub, Nat.reduceLeDiff, Nat.reduceLT, reduceIte, reduceCtorEq, Nat.reduceBEq]) | (simp (disch := first | assumption | omega | exact Seg.len _ | exact Vec.len _ | exact Leg.len _ | exact num_len _ | exact rowA_len _ | exact rowA_len | exact rowT_len _ | exact rowT_len | exact Seg.len | exact Vec.len | exact Leg.len | exact num_len | exact AV.slen _ _ | rfl) only [vP]) | (with_reducible (first | refine gsnd (fun _ => ?_) (fun _ => ?_) | refine csnd (fun _ => ?_) (fun _ => ?_) | refine gsd (fun _ => ?_) (fun _ => ?_) | refine csd (fun _ => ?_) (fun _ => ?_) | refine gsn (fun _ => ?_) (fun _ => ?_) | refine csn (fun _ => ?_) (fun _ => ?_))) | (with_reducible refine gs (fun _ => ?_) (fun _ => ?_)) | (with_reducible refine cs_ (fun _ => ?_) (fun _ => ?_)) | (with_reducible refine objQ_i (fun _ _ => ?_); (repeat (with_reducible refine imp_i (fun _ => ?_)))) | ((try with_reducible refine appK_a ?_); first | (with_reducible refine appD_F (by refine ⟨?_, ?_, ?_, ?_⟩ <;> (first | assumption | omega | exact St.has_add (by assumption) | (simp only [ins_has]; exact St.has_add (by assumption)) | (simp only [ins_has, fresh_ins, kill_ins, add_ins] at *; exact St.has_add (by assumption)) | (simp only [*, ins_has, has_full, St.has_add]; done) | (simp [-List.map_take, -List.map_drop, or_imp, forall_and, Seg.a, Vec.a, Leg.a, num, okEl, cells_agg, cells_int, cells_sl, cells_bool, AV.isCell]; done) | (simp; omega))) (fun _ _ => ?_)) | (with_reducible refine appD_V (by refine ⟨?_, ?_, ?_, ?_, ?_⟩ <;> (first | assumption | omega | exact St.has_add (by assumption) | (simp only [ins_has]; exact St.has_add (by assumption)) | (simp only [ins_has, fresh_ins, kill_ins, add_ins] at *; exact St.has_add (by assumption)) | (simp only [*, ins_has, has_full, St.has_add]; done) | (simp [-List.map_take, -List.map_drop, or_imp, forall_and, Seg.a, Vec.a, Leg.a, num, okEl, cells_agg, cells_int, cells_sl, cells_bool, AV.isCell]; done) | (simp; omega))) (fun _ _ => ?_))) | (with_reducible refine freshQ_i (fun _ _ => ?_)) | (with_reducible refine nilQ_i (fun _ _ => ?_)) | (with_reducible first | refine callH_use (hck) ?_ | refine pureQ_use (hck) ?_)))
    exact ⟨st, by (refine ⟨fun i o e => ?_, fun _ h => h⟩; revert e; simp only [St.ins, St.del, add_objs, kill_objs]; (repeat' split); all_goals (first | exact id | (intros; contradiction) | (intros; subst_vars; contradiction) | (intros; simp_all; done) | (intros; subst_vars; simp_all; done))), .full, by rw [HBn.out, if_pos hbig]; rfl, rfl⟩
  have HB : Hid (beginsF f w l = (legsF f w l 0 [⟨w.m, w.c - n + 1⟩], 0)) := ⟨by rw [HBn.out, if_neg hbig]⟩
  clear HBn
  have hb2 : IntKind.i64.wrap (w.c - w.m) = w.c - w.m := wrap_i64 _ (by omega) (by omega)
  refine VCalls.of v_slot_Begins_ok (Nat.le_of_ble_eq_true rfl) ?_
  simp only [v_slot_Begins, ↓vD, vU, VE.ev, VE.evs, retvs, tupOf, grab, vfill, vbsl, eqCells, eqCell, veqs, veqs1, vmnx, AV.isCell, AV.isUndef, Nat.reduceEqDiff, Nat.reduceAdd, Nat.reduceSub, Nat.reduceLeDiff, Nat.reduceLT, reduceIte, reduceCtorEq, Nat.reduceBEq, k_app, k_slc1]
  (repeat' (first | (simp (config := { maxDischargeDepth := 16 }) only [*, vX, Int.reduceLE, Int.reduceLT, Int.reduceGE, Int.reduceGT, Int.reduceBEq, Int.reduceBNe, Int.reduceAdd, Int.reduceSub, Int.reduceMul, Int.reduceNeg, ↓vD, vU, VE.ev, VE.evs, retvs, tupOf, grab, vfill, vbsl, eqCells, eqCell, veqs, veqs1, vmnx, AV.isCell, AV.isUndef, Nat.reduceEqDiff, Nat.reduceAdd, Nat.reduceSub, Nat.reduceLeDiff, Nat.reduceLT, reduceIte, reduceCtorEq, Nat.reduceBEq]) | (simp (disch := first | assumption | omega | exact Seg.len _ | exact Vec.len _ | exact Leg.len _ | exact num_len _ | exact rowA_len _ | exact rowA_len | exact rowT_len _ | exact rowT_len | exact Seg.len | exact Vec.len | exact Leg.len | exact num_len | exact AV.slen _ _ | rfl) only [vP]) | (with_reducible (first | refine gsnd (fun _ => ?_) (fun _ => ?_) | refine csnd (fun _ => ?_) (fun _ => ?_) | refine gsd (fun _ => ?_) (fun _ => ?_) | refine csd (fun _ => ?_) (fun _ => ?_) | refine gsn (fun _ => ?_) (fun _ => ?_) | refine csn (fun _ => ?_) (fun _ => ?_))) | (with_reducible refine gs (fun _ => ?_) (fun _ => ?_)) | (with_reducible refine cs_ (fun _ => ?_) (fun _ => ?_)) | (with_reducible refine objQ_i (fun _ _ => ?_); (repeat (with_reducible refine imp_i (fun _ => ?_)))) | ((try with_reducible refine appK_a ?_); first | (with_reducible refine appD_F (by refine ⟨?_, ?_, ?_, ?_⟩ <;> (first | assumption | omega | exact St.has_add (by assumption) | (simp only [ins_has]; exact St.has_add (by assumption)) | (simp only [ins_has, fresh_ins, kill_ins, add_ins] at *; exact St.has_add (by assumption)) | (simp only [*, ins_has, has_full, St.has_add]; done) | (simp [-List.map_take, -List.map_drop, or_imp, forall_and, Seg.a, Vec.a, Leg.a, num, okEl, cells_agg, cells_int, cells_sl, cells_bool, AV.isCell]; done) | (simp; omega))) (fun _ _ => ?_)) | (with_reducible refine appD_V (by refine ⟨?_, ?_, ?_, ?_, ?_⟩ <;> (first | assumption | omega | exact St.has_add (by assumption) | (simp only [ins_has]; exact St.has_add (by assumption)) | (simp only [ins_has, fresh_ins, kill_ins, add_ins] at *; exact St.has_add (by assumption)) | (simp only [*, ins_has, has_full, St.has_add]; done) | (simp [-List.map_take, -List.map_drop, or_imp, forall_and, Seg.a, Vec.a, Leg.a, num, okEl, cells_agg, cells_int, cells_sl, cells_bool, AV.isCell]; done) | (simp; omega))) (fun _ _ => ?_))) | (with_reducible refine freshQ_i (fun _ _ => ?_)) | (with_reducible refine nilQ_i (fun _ _ => ?_)) | (with_reducible first | refine callH_use (hck) ?_ | refine pureQ_use (hck) ?_)))
  rename_i b4 h4 b10 h10 n1 n2 b11 h11 n3 n4 n5 n6
  refine loopf_of (len := l.length) (by simp only [asgL, dsts, List.cons_append, List.nil_append, List.append_nil]; rfl) (by simp only [noR, Bool.and_true, Bool.and_false]; rfl) (by omega) (fun k fr s => ∃ (ds : List Nat) (out : List Vec) (a : Int) (tk : Tok) (S : St), s = ((S.ins b4 (.cells [.int .i64 w.m, .int .i64 w.c])).ins b10 (.cells [.sl (out.map Vec.a) tk])).ins b11 (.cells [.int .i64 a]) ∧ fr.t 45 = .int .i64 k ∧ fr.d = ds ∧ DS st S ds ∧ (S.objs b4 = none ∧ S.objs b10 = none ∧ S.objs b11 = none) ∧
    Rows w.m (w.c + 1) out ∧ 0 ≤ a ∧ a ≤ 4096 * k ∧ Hid (legsF f w (l.drop k) a out = legsF f w l 0 [⟨w.m, w.c - n + 1⟩])) ?_ ?_ ?_
  · exact ⟨[], [⟨w.m, w.c - n + 1⟩], 0, .full, st, rfl, by simp [↓vD, vU, VE.ev, VE.evs, retvs, tupOf, grab, vfill, vbsl, eqCells, eqCell, veqs, veqs1, vmnx, AV.isCell, AV.isUndef, Nat.reduceEqDiff, Nat.reduceAdd, Nat.reduceSub, Nat.reduceLeDiff, Nat.reduceLT, reduceIte, reduceCtorEq, Nat.reduceBEq, k_app, k_slc1], by simp [↓vD, vU, VE.ev, VE.evs, retvs, tupOf, grab, vfill, vbsl, eqCells, eqCell, veqs, veqs1, vmnx, AV.isCell, AV.isUndef, Nat.reduceEqDiff, Nat.reduceAdd, Nat.reduceSub, Nat.reduceLeDiff, Nat.reduceLT, reduceIte, reduceCtorEq, Nat.reduceBEq, k_app, k_slc1, initFr], DS.nil (St.le.refl _), ⟨h4, h10, h11⟩, ⟨by simp, by simp only; omega, by simp only; omega, trivial⟩, by omega, by omega, ⟨rfl⟩⟩
  · rintro k fr s hk hwr hfr hd ⟨ds, out, a, tk, S, rfl, h45, hdd, hDS, ⟨h4', h10', h11'⟩, hR, ha0, ha1, HK⟩
    obtain ⟨x, hx⟩ : ∃ x, l[k] = x := ⟨_, rfl⟩
    have hxd := HO.out.pos x (by rw [← hx]; exact List.getElem_mem _)
    have hlow := low_c f w x.v t
    have HN : Hid (legsF f w (l.drop (k + 1)) (a + x.d) (cutsF x.d a (lowF f w x.v) out) = legsF f w l 0 [⟨w.m, w.c - n + 1⟩]) := ⟨by rw [← HK.out, List.drop_eq_getElem_cons hk, hx, legsF]⟩
    have hin := fun b (hb : b ∈ lowF f w x.v) => And.intro (lowF_ne HO.out.may HO.out.win x.v b hb) (lowF_in (f := f) (v := x.v) (w := w) (by omega) b hb)
    have HIn := Hid.mk hin
    clear HK hin
    unfold Vec.a at hlow
    (repeat' (first | (simp (config := { maxDischargeDepth := 16 }) only [*, Leg.a, Vec.a, vX, Int.reduceLE, Int.reduceLT, Int.reduceGE, Int.reduceGT, Int.reduceBEq, Int.reduceBNe, Int.reduceAdd, Int.reduceSub, Int.reduceMul, Int.reduceNeg, ↓vD, vU, VE.ev, VE.evs, retvs, tupOf, grab, vfill, vbsl, eqCells, eqCell, veqs, veqs1, vmnx, AV.isCell, AV.isUndef, Nat.reduceEqDiff, Nat.reduceAdd, Nat.reduceSub, Nat.reduceLeDiff, Nat.reduceLT, reduceIte, reduceCtorEq, Nat.reduceBEq]) | (simp (disch := first | assumption | omega | exact Seg.len _ | exact Vec.len _ | exact Leg.len _ | exact num_len _ | exact rowA_len _ | exact rowA_len | exact rowT_len _ | exact rowT_len | exact Seg.len | exact Vec.len | exact Leg.len | exact num_len | exact AV.slen _ _ | rfl) only [Leg.a, Vec.a, vP]) | (with_reducible (first | refine gsnd (fun _ => ?_) (fun _ => ?_) | refine csnd (fun _ => ?_) (fun _ => ?_) | refine gsd (fun _ => ?_) (fun _ => ?_) | refine csd (fun _ => ?_) (fun _ => ?_) | refine gsn (fun _ => ?_) (fun _ => ?_) | refine csn (fun _ => ?_) (fun _ => ?_))) | (with_reducible refine gs (fun _ => ?_) (fun _ => ?_)) | (with_reducible refine cs_ (fun _ => ?_) (fun _ => ?_)) | (with_reducible refine objQ_i (fun _ _ => ?_); (repeat (with_reducible refine imp_i (fun _ => ?_)))) | ((try with_reducible refine appK_a ?_); first | (with_reducible refine appD_F (by refine ⟨?_, ?_, ?_, ?_⟩ <;> (first | assumption | omega | exact St.has_add (by assumption) | (simp only [ins_has]; exact St.has_add (by assumption)) | (simp only [ins_has, fresh_ins, kill_ins, add_ins] at *; exact St.has_add (by assumption)) | (simp only [*, ins_has, has_full, St.has_add]; done) | (simp [-List.map_take, -List.map_drop, or_imp, forall_and, Seg.a, Vec.a, Leg.a, num, okEl, cells_agg, cells_int, cells_sl, cells_bool, AV.isCell]; done) | (simp; omega))) (fun _ _ => ?_)) | (with_reducible refine appD_V (by refine ⟨?_, ?_, ?_, ?_, ?_⟩ <;> (first | assumption | omega | exact St.has_add (by assumption) | (simp only [ins_has]; exact St.has_add (by assumption)) | (simp only [ins_has, fresh_ins, kill_ins, add_ins] at *; exact St.has_add (by assumption)) | (simp only [*, ins_has, has_full, St.has_add]; done) | (simp [-List.map_take, -List.map_drop, or_imp, forall_and, Seg.a, Vec.a, Leg.a, num, okEl, cells_agg, cells_int, cells_sl, cells_bool, AV.isCell]; done) | (simp; omega))) (fun _ _ => ?_))) | (with_reducible refine freshQ_i (fun _ _ => ?_)) | (with_reducible refine nilQ_i (fun _ _ => ?_)) | (with_reducible first | refine callH_use (hlow) ?_ | refine pureQ_use (hlow) ?_)))
    rename_i b13 h13 m1 m2 m3 m4 m5 m6
    have HL : Hid (lowF f w x.v = lowF f w x.v) := ⟨rfl⟩
    refine rng_iter (gf := 128) (fs := []) (by simp only [↓vD, vU, VE.ev, VE.evs, retvs, tupOf, grab, vfill, vbsl, eqCells, eqCell, veqs, veqs1, vmnx, AV.isCell, AV.isUndef, Nat.reduceEqDiff, Nat.reduceAdd, Nat.reduceSub, Nat.reduceLeDiff, Nat.reduceLT, reduceIte, reduceCtorEq, Nat.reduceBEq, k_app, k_slc1]; rfl) (low_it f (by omega) w x.v t) (by simp) (fun j T => ∃ out2 tk2, T = (((S.ins b4 (.cells [.int .i64 w.m, .int .i64 w.c])).ins b10 (.cells [.sl (out2.map Vec.a) tk2])).ins b11 (.cells [.int .i64 a])).ins b13 (.cells [.int .i64 x.d, .int .i64 x.v.m, .int .i64 x.v.c]) ∧ Rows w.m (w.c + 1) out2 ∧ Hid (cutsF x.d a ((lowF f w x.v).drop j) out2 = cutsF x.d a (lowF f w x.v) out)) (fun _ _ => False) ⟨out, tk, rfl, hR, ⟨by simp⟩⟩ ?_ ?_ (by intro _ _ _ _ _ _ _ h; exact h.elim)
    · rintro Y l0 D r hzy nlD nDl j hj T ⟨out2, tk2, rfl, hR2, HK2⟩ hTl hTD
      simp only [ins_objs, ite_some_none] at hTl hTD
      obtain ⟨q1, q2, q3, q4, q5, q6, q7, q8, hSl⟩ := hTl
      obtain ⟨r1, r2, r3, r4, r5, r6, r7, r8, hSD⟩ := hTD
      rw [List.length_map] at hj
      simp only [List.getElem_map]
      have HC := HK2.out
      rw [List.drop_eq_getElem_cons hj, cutsF] at HC
      have hb := HIn.out _ (List.getElem_mem hj)
      obtain ⟨bad, hbad⟩ : ∃ b, (lowF f w x.v)[j] = b := ⟨_, rfl⟩
      rw [hbad] at HC hb ⊢
      have HC2 := Hid.mk HC
      have hlen := hR2.len (by omega)
      have hwo := without_v out2 (by omega) tk2 (shiftW x.d a bad)
      have hR3 := hR2.without (x := shiftW x.d a bad) (by simp only [shiftW]; omega)
      simp only [shiftW] at hwo
      clear HC HK2 hbad
      (repeat' (first | (simp (config := { maxDischargeDepth := 16 }) only [*, argsFr1_t, argsFr1_d, Vec.a, Leg.a, rq_normal, vX, Int.reduceLE, Int.reduceLT, Int.reduceGE, Int.reduceGT, Int.reduceBEq, Int.reduceBNe, Int.reduceAdd, Int.reduceSub, Int.reduceMul, Int.reduceNeg, ↓vD, vU, VE.ev, VE.evs, retvs, tupOf, grab, vfill, vbsl, eqCells, eqCell, veqs, veqs1, vmnx, AV.isCell, AV.isUndef, Nat.reduceEqDiff, Nat.reduceAdd, Nat.reduceSub, Nat.reduceLeDiff, Nat.reduceLT, reduceIte, reduceCtorEq, Nat.reduceBEq]) | (simp (disch := first | assumption | omega | exact Seg.len _ | exact Vec.len _ | exact Leg.len _ | exact num_len _ | exact rowA_len _ | exact rowA_len | exact rowT_len _ | exact rowT_len | exact Seg.len | exact Vec.len | exact Leg.len | exact num_len | exact AV.slen _ _ | rfl) only [argsFr1_t, argsFr1_d, Vec.a, Leg.a, rq_normal, vP]) | (with_reducible (first | refine gsnd (fun _ => ?_) (fun _ => ?_) | refine csnd (fun _ => ?_) (fun _ => ?_) | refine gsd (fun _ => ?_) (fun _ => ?_) | refine csd (fun _ => ?_) (fun _ => ?_) | refine gsn (fun _ => ?_) (fun _ => ?_) | refine csn (fun _ => ?_) (fun _ => ?_))) | (with_reducible refine gs (fun _ => ?_) (fun _ => ?_)) | (with_reducible refine cs_ (fun _ => ?_) (fun _ => ?_)) | (with_reducible refine objQ_i (fun _ _ => ?_); (repeat (with_reducible refine imp_i (fun _ => ?_)))) | ((try with_reducible refine appK_a ?_); first | (with_reducible refine appD_F (by refine ⟨?_, ?_, ?_, ?_⟩ <;> (first | assumption | omega | exact St.has_add (by assumption) | (simp only [ins_has]; exact St.has_add (by assumption)) | (simp only [ins_has, fresh_ins, kill_ins, add_ins] at *; exact St.has_add (by assumption)) | (simp only [*, ins_has, has_full, St.has_add]; done) | (simp [-List.map_take, -List.map_drop, or_imp, forall_and, Seg.a, Vec.a, Leg.a, num, okEl, cells_agg, cells_int, cells_sl, cells_bool, AV.isCell]; done) | (simp; omega))) (fun _ _ => ?_)) | (with_reducible refine appD_V (by refine ⟨?_, ?_, ?_, ?_, ?_⟩ <;> (first | assumption | omega | exact St.has_add (by assumption) | (simp only [ins_has]; exact St.has_add (by assumption)) | (simp only [ins_has, fresh_ins, kill_ins, add_ins] at *; exact St.has_add (by assumption)) | (simp only [*, ins_has, has_full, St.has_add]; done) | (simp [-List.map_take, -List.map_drop, or_imp, forall_and, Seg.a, Vec.a, Leg.a, num, okEl, cells_agg, cells_int, cells_sl, cells_bool, AV.isCell]; done) | (simp; omega))) (fun _ _ => ?_))) | (with_reducible refine freshQ_i (fun _ _ => ?_)) | (with_reducible refine nilQ_i (fun _ _ => ?_)) | (with_reducible first | refine callH_use (hwo) ?_ | refine pureQ_use (hwo) ?_)))
      exact ⟨_, ⟨⟨_, .no, rfl, hR3, HC2⟩, (by simp only [ins_objs, kill_objs, add_objs, *, if_false, if_true, not_false_eq_true, ite_some_none, and_self, and_true, true_and])⟩, (by simp only [ins_objs, kill_objs, add_objs, *, if_false, if_true, not_false_eq_true, ite_some_none, and_self, and_true, true_and]), by (refine leX.start ?_ rfl; (repeat (refine leX.in_ (by simp only [*, ins_objs, if_true, if_false]; first | done | rfl) ?_)); (repeat (first | refine leX.new (by first | assumption | (rw [hob]; assumption)) ?_ | refine leX.old (by (simp only [List.mem_cons, true_or, or_true, eq_self]; done)) ?_)); exact leX.refl _ _)⟩
    · rintro D l0 o T nlD nDl ⟨out2, tk2, rfl, hR2, HK2⟩ hTl hTD
      simp only [ins_objs, ite_some_none] at hTl hTD
      obtain ⟨q1, q2, q3, q4, q5, q6, q7, q8, hSl⟩ := hTl
      obtain ⟨r1, r2, r3, r4, r5, r6, r7, r8, hSD⟩ := hTD
      rw [List.length_map, List.drop_length, cutsF] at HK2
      have HC := HK2.out
      subst HC
      (repeat' (first | (simp (config := { maxDischargeDepth := 16 }) only [*, Leg.a, Vec.a, vX, Int.reduceLE, Int.reduceLT, Int.reduceGE, Int.reduceGT, Int.reduceBEq, Int.reduceBNe, Int.reduceAdd, Int.reduceSub, Int.reduceMul, Int.reduceNeg, ↓vD, vU, VE.ev, VE.evs, retvs, tupOf, grab, vfill, vbsl, eqCells, eqCell, veqs, veqs1, vmnx, AV.isCell, AV.isUndef, Nat.reduceEqDiff, Nat.reduceAdd, Nat.reduceSub, Nat.reduceLeDiff, Nat.reduceLT, reduceIte, reduceCtorEq, Nat.reduceBEq]) | (simp (disch := first | assumption | omega | exact Seg.len _ | exact Vec.len _ | exact Leg.len _ | exact num_len _ | exact rowA_len _ | exact rowA_len | exact rowT_len _ | exact rowT_len | exact Seg.len | exact Vec.len | exact Leg.len | exact num_len | exact AV.slen _ _ | rfl) only [Leg.a, Vec.a, vP]) | (with_reducible (first | refine gsnd (fun _ => ?_) (fun _ => ?_) | refine csnd (fun _ => ?_) (fun _ => ?_) | refine gsd (fun _ => ?_) (fun _ => ?_) | refine csd (fun _ => ?_) (fun _ => ?_) | refine gsn (fun _ => ?_) (fun _ => ?_) | refine csn (fun _ => ?_) (fun _ => ?_))) | (with_reducible refine gs (fun _ => ?_) (fun _ => ?_)) | (with_reducible refine cs_ (fun _ => ?_) (fun _ => ?_)) | (with_reducible refine objQ_i (fun _ _ => ?_); (repeat (with_reducible refine imp_i (fun _ => ?_)))) | ((try with_reducible refine appK_a ?_); first | (with_reducible refine appD_F (by refine ⟨?_, ?_, ?_, ?_⟩ <;> (first | assumption | omega | exact St.has_add (by assumption) | (simp only [ins_has]; exact St.has_add (by assumption)) | (simp only [ins_has, fresh_ins, kill_ins, add_ins] at *; exact St.has_add (by assumption)) | (simp only [*, ins_has, has_full, St.has_add]; done) | (simp [-List.map_take, -List.map_drop, or_imp, forall_and, Seg.a, Vec.a, Leg.a, num, okEl, cells_agg, cells_int, cells_sl, cells_bool, AV.isCell]; done) | (simp; omega))) (fun _ _ => ?_)) | (with_reducible refine appD_V (by refine ⟨?_, ?_, ?_, ?_, ?_⟩ <;> (first | assumption | omega | exact St.has_add (by assumption) | (simp only [ins_has]; exact St.has_add (by assumption)) | (simp only [ins_has, fresh_ins, kill_ins, add_ins] at *; exact St.has_add (by assumption)) | (simp only [*, ins_has, has_full, St.has_add]; done) | (simp [-List.map_take, -List.map_drop, or_imp, forall_and, Seg.a, Vec.a, Leg.a, num, okEl, cells_agg, cells_int, cells_sl, cells_bool, AV.isCell]; done) | (simp; omega))) (fun _ _ => ?_))) | (with_reducible refine freshQ_i (fun _ _ => ?_)) | (with_reducible refine nilQ_i (fun _ _ => ?_))))
      exact ⟨_, by (refine leX.start ?_ rfl; (repeat (refine leX.in_ (by simp only [*, ins_objs, if_true, if_false]; first | done | rfl) ?_)); (repeat (first | refine leX.new (by first | assumption | (rw [hob]; assumption)) ?_ | refine leX.old (by (simp only [List.mem_cons, true_or, or_true, eq_self]; done)) ?_)); exact leX.refl _ _), D :: ds, _, a + x.d, tk2, S.ins D dobj, rfl, rfl, hDS.cons hSD, ⟨(by simp only [ins_objs, kill_objs, add_objs, *, if_false, if_true, not_false_eq_true, ite_some_none, and_self, and_true, true_and]), (by simp only [ins_objs, kill_objs, add_objs, *, if_false, if_true, not_false_eq_true, ite_some_none, and_self, and_true, true_and]), (by simp only [ins_objs, kill_objs, add_objs, *, if_false, if_true, not_false_eq_true, ite_some_none, and_self, and_true, true_and])⟩, hR2, by omega, by omega, HN⟩
  · rintro fr s hfr hd ⟨ds, out, a, tk, S, rfl, h45, hdd, hDS, ⟨h4', h10', h11'⟩, hR, ha0, ha1, HK⟩
    rw [List.drop_length, legsF] at HK
    have hle : S.le (((S.ins b4 (.cells [.int .i64 w.m, .int .i64 w.c])).ins b10 (.cells [.sl (out.map Vec.a) tk])).ins b11 (.cells [.int .i64 a])) := by (refine ⟨fun i o e => ?_, fun _ h => h⟩; revert e; simp only [St.ins, St.del, add_objs, kill_objs]; (repeat' split); all_goals (first | exact id | (intros; contradiction) | (intros; subst_vars; contradiction) | (intros; simp_all; done) | (intros; subst_vars; simp_all; done)))
    (repeat' (first | (simp (config := { maxDischargeDepth := 16 }) only [*, vX, Int.reduceLE, Int.reduceLT, Int.reduceGE, Int.reduceGT, Int.reduceBEq, Int.reduceBNe, Int.reduceAdd, Int.reduceSub, Int.reduceMul, Int.reduceNeg, ↓vD, vU, VE.ev, VE.evs, retvs, tupOf, grab, vfill, vbsl, eqCells, eqCell, veqs, veqs1, vmnx, AV.isCell, AV.isUndef, Nat.reduceEqDiff, Nat.reduceAdd, Nat.reduceSub, Nat.reduceLeDiff, Nat.reduceLT, reduceIte, reduceCtorEq, Nat.reduceBEq]) | (simp (disch := first | assumption | omega | exact Seg.len _ | exact Vec.len _ | exact Leg.len _ | exact num_len _ | exact rowA_len _ | exact rowA_len | exact rowT_len _ | exact rowT_len | exact Seg.len | exact Vec.len | exact Leg.len | exact num_len | exact AV.slen _ _ | rfl) only [vP]) | (with_reducible (first | refine gsnd (fun _ => ?_) (fun _ => ?_) | refine csnd (fun _ => ?_) (fun _ => ?_) | refine gsd (fun _ => ?_) (fun _ => ?_) | refine csd (fun _ => ?_) (fun _ => ?_) | refine gsn (fun _ => ?_) (fun _ => ?_) | refine csn (fun _ => ?_) (fun _ => ?_))) | (with_reducible refine gs (fun _ => ?_) (fun _ => ?_)) | (with_reducible refine cs_ (fun _ => ?_) (fun _ => ?_)) | (with_reducible refine objQ_i (fun _ _ => ?_); (repeat (with_reducible refine imp_i (fun _ => ?_)))) | ((try with_reducible refine appK_a ?_); first | (with_reducible refine appD_F (by refine ⟨?_, ?_, ?_, ?_⟩ <;> (first | assumption | omega | exact St.has_add (by assumption) | (simp only [ins_has]; exact St.has_add (by assumption)) | (simp only [ins_has, fresh_ins, kill_ins, add_ins] at *; exact St.has_add (by assumption)) | (simp only [*, ins_has, has_full, St.has_add]; done) | (simp [-List.map_take, -List.map_drop, or_imp, forall_and, Seg.a, Vec.a, Leg.a, num, okEl, cells_agg, cells_int, cells_sl, cells_bool, AV.isCell]; done) | (simp; omega))) (fun _ _ => ?_)) | (with_reducible refine appD_V (by refine ⟨?_, ?_, ?_, ?_, ?_⟩ <;> (first | assumption | omega | exact St.has_add (by assumption) | (simp only [ins_has]; exact St.has_add (by assumption)) | (simp only [ins_has, fresh_ins, kill_ins, add_ins] at *; exact St.has_add (by assumption)) | (simp only [*, ins_has, has_full, St.has_add]; done) | (simp [-List.map_take, -List.map_drop, or_imp, forall_and, Seg.a, Vec.a, Leg.a, num, okEl, cells_agg, cells_int, cells_sl, cells_bool, AV.isCell]; done) | (simp; omega))) (fun _ _ => ?_))) | (with_reducible refine freshQ_i (fun _ _ => ?_)) | (with_reducible refine nilQ_i (fun _ _ => ?_))))
    · rename_i hc
      have ho : out = [] := by
        have : out.length = 0 := by first | omega | simpa using hc
        exact List.length_eq_zero_iff.1 this
      refine ⟨_, st, rfl, hDS.fin hle, hDS.2.1, hDS.1.trans hle, .full, ?_, rfl⟩
      rw [HB.out, ← HK.out, ho]; rfl
    · refine ⟨_, st, rfl, hDS.fin hle, hDS.2.1, hDS.1.trans hle, tk, ?_, rfl⟩
      rw [HB.out, ← HK.out]; rfl
end Go.Proofs.Ytddbnncimggogaa.V
end
section
set_option linter.unusedSimpArgs false
set_option linter.unusedVariables false
/- The compiled functions of the package liveryref16 (printed by Print.lean of this work). -/
namespace Go.Proofs.Ytddbnncimggogaa.V
open Go Go.Proofs
def v_liveryref16_Same : VFn := ⟨.seq (.reg [⟨some 4, .mov (.c (.bool false)), none, [], []⟩])
(.seq (.seq (.reg [⟨some 6, .mov (.t 0), none, [], []⟩,
  ⟨some 7, .len (.t 6), none, [0], []⟩,
  ⟨some 8, .mov (.t 1), none, [], []⟩,
  ⟨some 9, .len (.t 8), none, [2], []⟩,
  ⟨some 10, .bin .neq (.t 7) (.t 9), none, [1, 3], []⟩])
(.cond (.t 10)
  (.seq (.reg [⟨some 4, .mov (.c (.bool false)), none, [], []⟩])
  (.ret))
  (.skip)))
(.seq (.seq (.reg [⟨some 5, .mov (.c (.int .i64 0)), none, [], []⟩])
(.block 0
  (.loop
    (.seq (.seq (.reg [⟨some 11, .mov (.t 5), none, [], []⟩,
      ⟨some 12, .mov (.t 0), none, [], []⟩,
      ⟨some 13, .len (.t 12), none, [1], []⟩,
      ⟨some 14, .bin .lss (.t 11) (.t 13), none, [0, 2], []⟩])
    (.cond (.t 14)
      (.skip)
      (.exit 0)))
    (.seq (.block 1
      (.seq (.dreg [⟨some 17, .mov (.t 0), none, [], []⟩,
        ⟨some 18, .mov (.t 5), none, [], []⟩,
        ⟨some 19, .iad 2 (.t 17) (.t 18), none, [0, 1], []⟩,
        ⟨some 20, .load 2 true (.t 19), none, [2], []⟩,
        ⟨some 21, .mov (.t 1), none, [], []⟩,
        ⟨some 22, .mov (.t 5), none, [], []⟩,
        ⟨some 23, .iad 2 (.t 21) (.t 22), none, [4, 5], []⟩,
        ⟨some 24, .load 2 true (.t 23), none, [6], []⟩,
        ⟨some 25, .eqs true [0, 0] (.t 20) (.t 24), none, [3, 7], []⟩])
      (.cond (.t 25)
        (.seq (.reg [⟨some 4, .mov (.c (.bool false)), none, [], []⟩])
        (.ret))
        (.skip))))
    (.reg [⟨some 15, .mov (.t 5), none, [], []⟩,
      ⟨some 16, .bin .add (.t 15) (.c (.int .i64 1)), none, [0], []⟩,
      ⟨some 5, .mov (.t 16), none, [1, 0, 1], []⟩]))))))
(.seq (.reg [⟨some 4, .mov (.c (.bool true)), none, [], []⟩])
(.ret)))),
[.t 4], 26⟩
theorem v_liveryref16_Same_ok : compF Try.prog 43 = some v_liveryref16_Same := by kernel_rfl
end Go.Proofs.Ytddbnncimggogaa.V
end
section
set_option linter.unusedSimpArgs false
set_option linter.unusedVariables false
/- The compiled functions of the package liverylaw16 (printed by Print.lean of this work). -/
namespace Go.Proofs.Ytddbnncimggogaa.V
open Go Go.Proofs
def v_liverylaw16_SlotCut : VFn := ⟨.seq (.reg [⟨some 3, .box (.t 1), none, [], []⟩,
  ⟨some 4, .mov (.c (.bool false)), none, [], []⟩])
(.seq (.dreg [⟨some 22, .fad 0 (.t 3), none, [], []⟩,
  ⟨some 23, .load 2 true (.t 22), none, [0], []⟩,
  ⟨some 24, .fad 2 (.t 3), none, [], []⟩,
  ⟨some 25, .load 1 false (.t 24), none, [2], []⟩,
  ⟨some 5, .alloc [(.int .i64 0), (.int .i64 0)], none, [], []⟩,
  ⟨none, .store 2 (.t 5) (.t 23), none, [4, 1, 0, 1, 4], [(3, 24)]⟩,
  ⟨some 6, .mov (.t 25), none, [3, 5, 0, 1, 2, 3, 4, 5], []⟩])
(.seq (.seq (.reg [⟨some 26, .mov (.t 0), none, [], []⟩,
  ⟨some 27, .load 2 true (.t 5), none, [], []⟩,
  ⟨some 28, .mov (.t 6), none, [], []⟩,
  ⟨some 29, .call 40 [(.t 26), (.t 27), (.t 28)], none, [0, 1, 2], []⟩,
  ⟨some 30, .mov (.t 29), none, [3, 3], []⟩,
  ⟨some 31, .mov (.t 6), some (30, false), [4], []⟩,
  ⟨some 32, .len (.t 31), some (30, false), [5, 4], []⟩,
  ⟨some 33, .bin .gtr (.t 32) (.c (.int .i64 14)), some (30, false), [6, 4], []⟩,
  ⟨some 34, .pick (.t 30) (.c (.bool true)) (.t 33), none, [4, 7], []⟩,
  ⟨some 35, .mov (.t 34), none, [8, 4], []⟩,
  ⟨some 36, .mov (.t 6), some (35, false), [9], []⟩,
  ⟨some 37, .len (.t 36), some (35, false), [10, 9], []⟩,
  ⟨some 38, .bin .eql (.t 37) (.c (.int .i64 0)), some (35, false), [11, 9], []⟩,
  ⟨some 39, .pick (.t 35) (.c (.bool true)) (.t 38), none, [9, 12], []⟩])
(.cond (.t 39)
  (.seq (.reg [⟨some 40, .call 41 [], none, [], []⟩,
    ⟨some 4, .mov (.t 40), none, [0, 0, 0], []⟩])
  (.ret))
  (.skip)))
(.seq (.reg [⟨some 42, .mov (.t 0), none, [], []⟩,
  ⟨some 43, .load 2 true (.t 5), none, [], []⟩,
  ⟨some 44, .mov (.t 6), none, [], []⟩,
  ⟨some 45, .call 42 [(.t 42), (.t 43), (.t 44)], none, [0, 1, 2], []⟩,
  ⟨some 41, .mov (.t 45), none, [3], []⟩,
  ⟨some 46, .ext (.t 41) 0, none, [4], []⟩,
  ⟨some 47, .ext (.t 41) 1, none, [4], []⟩,
  ⟨some 7, .mov (.t 46), none, [5, 3, 0, 1, 2, 3, 4, 5], []⟩,
  ⟨some 8, .mov (.t 47), none, [6, 7, 0, 1, 2, 3, 4, 5, 6, 7], []⟩])
(.seq (.seq (.reg [⟨some 48, .mov (.t 8), none, [], []⟩,
  ⟨some 49, .bin .neq (.t 48) (.c (.int .i64 0)), none, [0], []⟩])
(.cond (.t 49)
  (.seq (.reg [⟨some 50, .call 41 [], none, [], []⟩,
    ⟨some 4, .mov (.t 50), none, [0, 0, 0], []⟩])
  (.ret))
  (.skip)))
(.seq (.reg [⟨some 51, .fad 3 (.t 3), none, [], []⟩,
  ⟨some 52, .iaa 2 1 (.t 51) (.c (.int .i64 0)), none, [0], []⟩,
  ⟨some 53, .load 1 false (.t 52), none, [1], []⟩,
  ⟨some 54, .conv .i64 (.t 53), none, [2], []⟩,
  ⟨some 55, .mov (.t 6), none, [], []⟩,
  ⟨some 56, .len (.t 55), none, [4], []⟩,
  ⟨some 57, .bin .rem (.t 54) (.t 56), none, [3, 5], []⟩,
  ⟨some 9, .mov (.t 57), none, [6, 0, 1, 2, 3, 4, 5, 6], []⟩])
(.seq (.seq (.reg [⟨some 58, .mov (.t 6), none, [], []⟩,
  ⟨some 59, .mov (.t 9), none, [], []⟩,
  ⟨some 60, .iad 3 (.t 58) (.t 59), none, [0, 1], []⟩,
  ⟨some 61, .fad 0 (.t 60), none, [2], []⟩,
  ⟨some 62, .load 1 false (.t 61), none, [3], []⟩,
  ⟨some 63, .bin .lss (.t 62) (.c (.int .i64 2)), none, [4], []⟩])
(.cond (.t 63)
  (.seq (.reg [⟨some 64, .call 41 [], none, [], []⟩,
    ⟨some 4, .mov (.t 64), none, [0, 0, 0], []⟩])
  (.ret))
  (.skip)))
(.seq (.dreg [⟨some 65, .fad 3 (.t 3), none, [], []⟩,
  ⟨some 66, .iaa 2 1 (.t 65) (.c (.int .i64 1)), none, [0], []⟩,
  ⟨some 67, .load 1 false (.t 66), none, [1], []⟩,
  ⟨some 68, .conv .i64 (.t 67), none, [2], []⟩,
  ⟨some 69, .mov (.t 6), none, [], []⟩,
  ⟨some 70, .mov (.t 9), none, [], []⟩,
  ⟨some 71, .iad 3 (.t 69) (.t 70), none, [4, 5], []⟩,
  ⟨some 72, .fad 0 (.t 71), none, [6], []⟩,
  ⟨some 73, .load 1 false (.t 72), none, [7], []⟩,
  ⟨some 74, .bin .sub (.t 73) (.c (.int .i64 1)), none, [8], []⟩,
  ⟨some 75, .bin .rem (.t 68) (.t 74), none, [3, 9], []⟩,
  ⟨some 76, .bin .add (.c (.int .i64 1)) (.t 75), none, [10], []⟩,
  ⟨some 10, .mov (.t 76), none, [11, 0, 1, 2, 3, 4, 5, 6, 7, 8, 9, 10, 11], []⟩])
(.seq (.dreg [⟨some 77, .bsl 3 [], none, [], []⟩,
  ⟨some 78, .mov (.t 6), none, [], []⟩,
  ⟨some 79, .mov (.t 9), none, [], []⟩,
  ⟨some 80, .slc 3 (.t 78) none (some (.t 79)) none, none, [1, 2], []⟩,
  ⟨some 81, .app 3 24 (.t 77) (.t 80), none, [0, 3], []⟩,
  ⟨some 82, .mov (.t 10), none, [], []⟩,
  ⟨some 83, .mov (.t 6), none, [], []⟩,
  ⟨some 84, .mov (.t 9), none, [], []⟩,
  ⟨some 85, .iad 3 (.t 83) (.t 84), none, [6, 7], []⟩,
  ⟨some 86, .fad 1 (.t 85), none, [8], []⟩,
  ⟨some 87, .load 2 true (.t 86), none, [9], []⟩,
  ⟨some 88, .build [(.int .i64 0), (.int .i64 0), (.int .i64 0)] [(0, 1, (.t 82)), (1, 2, (.t 87))], none, [5, 10], []⟩,
  ⟨some 89, .mov (.t 6), none, [], []⟩,
  ⟨some 90, .mov (.t 9), none, [], []⟩,
  ⟨some 91, .iad 3 (.t 89) (.t 90), none, [12, 13], []⟩,
  ⟨some 92, .fad 0 (.t 91), none, [14], []⟩,
  ⟨some 93, .load 1 false (.t 92), none, [15], []⟩,
  ⟨some 94, .mov (.t 10), none, [], []⟩,
  ⟨some 95, .bin .sub (.t 93) (.t 94), none, [16, 17], []⟩,
  ⟨some 96, .mov (.t 6), none, [], []⟩,
  ⟨some 97, .mov (.t 9), none, [], []⟩,
  ⟨some 98, .iad 3 (.t 96) (.t 97), none, [19, 20], []⟩,
  ⟨some 99, .fad 1 (.t 98), none, [21], []⟩,
  ⟨some 100, .load 2 true (.t 99), none, [22], []⟩,
  ⟨some 101, .build [(.int .i64 0), (.int .i64 0), (.int .i64 0)] [(0, 1, (.t 95)), (1, 2, (.t 100))], none, [18, 23], []⟩,
  ⟨some 102, .bsl 3 [(.t 88), (.t 101)], none, [11, 24], []⟩,
  ⟨some 103, .app 3 24 (.t 81) (.t 102), none, [4, 25, 4], []⟩,
  ⟨some 104, .mov (.t 6), none, [], []⟩,
  ⟨some 105, .mov (.t 9), none, [], []⟩,
  ⟨some 106, .bin .add (.t 105) (.c (.int .i64 1)), none, [28], []⟩,
  ⟨some 107, .slc 3 (.t 104) (some (.t 106)) none none, none, [27, 29], []⟩,
  ⟨some 108, .app 3 24 (.t 103) (.t 107), none, [26, 30, 26], [(0, 0)]⟩,
  ⟨some 11, .mov (.t 108), none, [31, 31, 0, 1, 2, 3, 4, 5, 6, 7, 8, 9, 10, 11, 12, 13, 14, 15, 16, 17, 18, 19, 20, 21, 22, 23, 24, 25, 26, 27, 28, 29, 30, 31], []⟩])
(.seq (.reg [⟨some 110, .mov (.t 0), none, [], []⟩,
  ⟨some 111, .load 2 true (.t 5), none, [], []⟩,
  ⟨some 112, .mov (.t 11), none, [], []⟩,
  ⟨some 113, .call 42 [(.t 110), (.t 111), (.t 112)], none, [0, 1, 2], []⟩,
  ⟨some 109, .mov (.t 113), none, [3], []⟩,
  ⟨some 114, .ext (.t 109) 0, none, [4], []⟩,
  ⟨some 115, .ext (.t 109) 1, none, [4], []⟩,
  ⟨some 12, .mov (.t 114), none, [5, 3, 0, 1, 2, 3, 4, 5], []⟩,
  ⟨some 13, .mov (.t 115), none, [6, 7, 0, 1, 2, 3, 4, 5, 6, 7], []⟩])
(.seq (.seq (.reg [⟨some 116, .mov (.t 13), none, [], []⟩,
  ⟨some 117, .bin .neq (.t 116) (.c (.int .i64 0)), none, [0], []⟩,
  ⟨some 118, .mov (.t 117), none, [1], []⟩,
  ⟨some 119, .mov (.t 7), some (118, false), [2], []⟩,
  ⟨some 120, .mov (.t 12), some (118, false), [2], []⟩,
  ⟨some 121, .call 43 [(.t 119), (.t 120)], some (118, false), [3, 4, 2, 2], []⟩,
  ⟨some 122, .un .not (.t 121), some (118, false), [5, 2], []⟩,
  ⟨some 123, .pick (.t 118) (.c (.bool true)) (.t 122), none, [2, 6], []⟩])
(.cond (.t 123)
  (.seq (.reg [⟨some 4, .mov (.c (.bool false)), none, [], []⟩])
  (.ret))
  (.skip)))
(.seq (.reg [⟨some 124, .call 44 [(.c (.int .i64 (-1125899906842624)))], none, [], []⟩,
  ⟨some 125, .build [(.int .i64 0), (.int .i64 0), (.int .i64 0)] [(0, 1, (.c (.int .i64 1))), (1, 2, (.t 124))], none, [0], []⟩,
  ⟨some 14, .alloc [(.int .i64 0), (.int .i64 0), (.int .i64 0)], none, [], []⟩,
  ⟨none, .store 3 (.t 14) (.t 125), none, [2, 1, 0, 0, 1, 2], []⟩])
(.seq (.dreg [⟨some 127, .mov (.t 0), none, [], []⟩,
  ⟨some 128, .load 2 true (.t 5), none, [], []⟩,
  ⟨some 129, .load 3 true (.t 14), none, [], []⟩,
  ⟨some 130, .bsl 3 [(.t 129)], none, [2], []⟩,
  ⟨some 131, .mov (.t 6), none, [], []⟩,
  ⟨some 132, .app 3 24 (.t 130) (.t 131), none, [3, 4], []⟩,
  ⟨some 133, .call 42 [(.t 127), (.t 128), (.t 132)], none, [0, 1, 5, 5], [(0, 0)]⟩,
  ⟨some 126, .mov (.t 133), none, [6], []⟩,
  ⟨some 134, .ext (.t 126) 0, none, [7], []⟩,
  ⟨some 135, .ext (.t 126) 1, none, [7], []⟩,
  ⟨some 15, .mov (.t 134), none, [8, 6, 0, 1, 2, 3, 4, 5, 6, 7, 8], []⟩,
  ⟨some 16, .mov (.t 135), none, [9, 10, 0, 1, 2, 3, 4, 5, 6, 7, 8, 9, 10], []⟩])
(.seq (.reg [⟨some 17, .mov (.c (.int .i64 0)), none, [], []⟩])
(.seq (.seq (.reg [⟨some 18, .mov (.c (.int .i64 0)), none, [], []⟩])
(.block 0
  (.loop
    (.seq (.seq (.reg [⟨some 136, .mov (.t 18), none, [], []⟩,
      ⟨some 137, .mov (.t 7), none, [], []⟩,
      ⟨some 138, .len (.t 137), none, [1], []⟩,
      ⟨some 139, .bin .lss (.t 136) (.t 138), none, [0, 2], []⟩])
    (.cond (.t 139)
      (.skip)
      (.exit 0)))
    (.seq (.block 1
      (.dreg [⟨some 142, .mov (.t 17), none, [], []⟩,
        ⟨some 143, .mov (.t 7), none, [], []⟩,
        ⟨some 144, .mov (.t 18), none, [], []⟩,
        ⟨some 145, .iad 2 (.t 143) (.t 144), none, [1, 2], []⟩,
        ⟨some 146, .fad 1 (.t 145), none, [3], []⟩,
        ⟨some 147, .load 1 false (.t 146), none, [4], []⟩,
        ⟨some 148, .bin .add (.t 142) (.t 147), none, [0, 5], []⟩,
        ⟨some 149, .mov (.t 7), none, [], []⟩,
        ⟨some 150, .mov (.t 18), none, [], []⟩,
        ⟨some 151, .iad 2 (.t 149) (.t 150), none, [7, 8], []⟩,
        ⟨some 152, .fad 0 (.t 151), none, [9], []⟩,
        ⟨some 153, .load 1 false (.t 152), none, [10], []⟩,
        ⟨some 154, .bin .sub (.t 148) (.t 153), none, [6, 11], []⟩,
        ⟨some 17, .mov (.t 154), none, [12, 0, 1, 2, 3, 4, 5, 6, 7, 8, 9, 10, 11, 12], []⟩]))
    (.reg [⟨some 140, .mov (.t 18), none, [], []⟩,
      ⟨some 141, .bin .add (.t 140) (.c (.int .i64 1)), none, [0], []⟩,
      ⟨some 18, .mov (.t 141), none, [1, 0, 1], []⟩]))))))
(.seq (.reg [⟨some 19, .mov (.c (.int .i64 0)), none, [], []⟩])
(.seq (.seq (.reg [⟨some 20, .mov (.c (.int .i64 0)), none, [], []⟩])
(.block 2
  (.loop
    (.seq (.seq (.reg [⟨some 155, .mov (.t 20), none, [], []⟩,
      ⟨some 156, .mov (.t 15), none, [], []⟩,
      ⟨some 157, .len (.t 156), none, [1], []⟩,
      ⟨some 158, .bin .lss (.t 155) (.t 157), none, [0, 2], []⟩])
    (.cond (.t 158)
      (.skip)
      (.exit 2)))
    (.seq (.block 3
      (.dreg [⟨some 161, .mov (.t 19), none, [], []⟩,
        ⟨some 162, .mov (.t 15), none, [], []⟩,
        ⟨some 163, .mov (.t 20), none, [], []⟩,
        ⟨some 164, .iad 2 (.t 162) (.t 163), none, [1, 2], []⟩,
        ⟨some 165, .fad 1 (.t 164), none, [3], []⟩,
        ⟨some 166, .load 1 false (.t 165), none, [4], []⟩,
        ⟨some 167, .bin .add (.t 161) (.t 166), none, [0, 5], []⟩,
        ⟨some 168, .mov (.t 15), none, [], []⟩,
        ⟨some 169, .mov (.t 20), none, [], []⟩,
        ⟨some 170, .iad 2 (.t 168) (.t 169), none, [7, 8], []⟩,
        ⟨some 171, .fad 0 (.t 170), none, [9], []⟩,
        ⟨some 172, .load 1 false (.t 171), none, [10], []⟩,
        ⟨some 173, .bin .sub (.t 167) (.t 172), none, [6, 11], []⟩,
        ⟨some 19, .mov (.t 173), none, [12, 0, 1, 2, 3, 4, 5, 6, 7, 8, 9, 10, 11, 12], []⟩]))
    (.reg [⟨some 159, .mov (.t 20), none, [], []⟩,
      ⟨some 160, .bin .add (.t 159) (.c (.int .i64 1)), none, [0], []⟩,
      ⟨some 20, .mov (.t 160), none, [1, 0, 1], []⟩]))))))
(.seq (.reg [⟨some 21, .mov (.c (.int .i64 0)), none, [], []⟩])
(.seq (.seq (.dreg [⟨some 174, .mov (.t 7), none, [], []⟩,
  ⟨some 175, .len (.t 174), none, [0], []⟩,
  ⟨some 176, .bin .gtr (.t 175) (.c (.int .i64 0)), none, [1], []⟩,
  ⟨some 177, .mov (.t 176), none, [2], []⟩,
  ⟨some 178, .mov (.t 7), some (177, true), [3], []⟩,
  ⟨some 179, .iad 2 (.t 178) (.c (.int .i64 0)), some (177, true), [4, 3], []⟩,
  ⟨some 180, .fad 0 (.t 179), some (177, true), [5, 3], []⟩,
  ⟨some 181, .load 1 false (.t 180), some (177, true), [6, 3], []⟩,
  ⟨some 182, .fad 0 (.t 5), some (177, true), [3], []⟩,
  ⟨some 183, .load 1 false (.t 182), some (177, true), [8, 3], []⟩,
  ⟨some 184, .bin .eql (.t 181) (.t 183), some (177, true), [7, 9, 3], []⟩,
  ⟨some 185, .pick (.t 177) (.t 184) (.c (.bool false)), none, [3, 10], []⟩])
(.cond (.t 185)
  (.reg [⟨some 21, .mov (.c (.int .i64 1)), none, [], []⟩])
  (.skip)))
(.seq (.reg [⟨some 186, .mov (.t 16), none, [], []⟩,
  ⟨some 187, .bin .eql (.t 186) (.c (.int .i64 0)), none, [0], []⟩,
  ⟨some 188, .mov (.t 187), none, [1], []⟩,
  ⟨some 189, .mov (.t 19), some (188, true), [2], []⟩,
  ⟨some 190, .mov (.t 17), some (188, true), [2], []⟩,
  ⟨some 191, .mov (.t 21), some (188, true), [2], []⟩,
  ⟨some 192, .bin .sub (.t 190) (.t 191), some (188, true), [4, 5, 2], []⟩,
  ⟨some 193, .bin .eql (.t 189) (.t 192), some (188, true), [3, 6, 2], []⟩,
  ⟨some 194, .pick (.t 188) (.t 193) (.c (.bool false)), none, [2, 7], []⟩,
  ⟨some 195, .mov (.t 194), none, [8, 2], []⟩,
  ⟨some 196, .call 41 [], some (195, true), [9, 9], []⟩,
  ⟨some 197, .pick (.t 195) (.t 196) (.c (.bool false)), none, [9, 10], []⟩,
  ⟨some 4, .mov (.t 197), none, [11, 10, 0, 1, 2, 3, 4, 5, 6, 7, 8, 9, 10, 11], []⟩])
(.ret)))))))))))))))))))),
[.t 4], 198⟩
theorem v_liverylaw16_SlotCut_ok : compF Try.prog 11 = some v_liverylaw16_SlotCut := by kernel_rfl
def v_liverylaw16_great : VFn := ⟨.seq (.reg [⟨some 4, .box (.t 1), none, [], []⟩,
  ⟨some 6, .mov (.c (.bool false)), none, [], []⟩])
(.seq (.reg [⟨some 7, .mov (.t 0), none, [], []⟩,
  ⟨some 8, .len (.t 7), none, [0], []⟩,
  ⟨some 9, .bin .gtr (.t 8) (.c (.int .i64 60)), none, [1], []⟩,
  ⟨some 10, .mov (.t 9), none, [2], []⟩,
  ⟨some 11, .mov (.t 2), some (10, false), [3], []⟩,
  ⟨some 12, .len (.t 11), some (10, false), [4, 3], []⟩,
  ⟨some 13, .bin .gtr (.t 12) (.c (.int .i64 30)), some (10, false), [5, 3], []⟩,
  ⟨some 14, .pick (.t 10) (.c (.bool true)) (.t 13), none, [3, 6], []⟩,
  ⟨some 15, .mov (.t 14), none, [7, 3], []⟩,
  ⟨some 16, .fad 0 (.t 4), some (15, false), [8], []⟩,
  ⟨some 17, .load 1 false (.t 16), some (15, false), [9, 8], []⟩,
  ⟨some 18, .fad 1 (.t 4), some (15, false), [8], []⟩,
  ⟨some 19, .load 1 false (.t 18), some (15, false), [11, 8], []⟩,
  ⟨some 20, .bin .lss (.t 17) (.t 19), some (15, false), [10, 12, 8], []⟩,
  ⟨some 21, .mov (.t 20), some (15, false), [13, 8, 8], []⟩,
  ⟨some 22, .fad 1 (.t 4), some (21, true), [14], []⟩,
  ⟨some 23, .load 1 false (.t 22), some (21, true), [15, 14], []⟩,
  ⟨some 24, .fad 0 (.t 4), some (21, true), [14], []⟩,
  ⟨some 25, .load 1 false (.t 24), some (21, true), [17, 14], []⟩,
  ⟨some 26, .bin .sub (.t 23) (.t 25), some (21, true), [16, 18, 14], []⟩,
  ⟨some 27, .bin .gtr (.t 26) (.c (.int .i64 150)), some (21, true), [19, 14], []⟩,
  ⟨some 28, .pick (.t 21) (.t 27) (.c (.bool false)), some (15, false), [14, 20, 8], []⟩,
  ⟨some 29, .mov (.t 28), some (15, false), [21, 14, 8], []⟩,
  ⟨some 30, .fad 1 (.t 4), some (29, true), [22], []⟩,
  ⟨some 31, .load 1 false (.t 30), some (29, true), [23, 22], []⟩,
  ⟨some 32, .fad 0 (.t 4), some (29, true), [22], []⟩,
  ⟨some 33, .load 1 false (.t 32), some (29, true), [25, 22], []⟩,
  ⟨some 34, .bin .sub (.t 31) (.t 33), some (29, true), [24, 26, 22], []⟩,
  ⟨some 35, .bin .leq (.t 34) (.c (.int .i64 4096)), some (29, true), [27, 22], []⟩,
  ⟨some 36, .pick (.t 29) (.t 35) (.c (.bool false)), some (15, false), [22, 28, 8], []⟩,
  ⟨some 37, .pick (.t 15) (.c (.bool true)) (.t 36), none, [8, 29], []⟩,
  ⟨some 6, .mov (.t 37), none, [30, 22, 0, 1, 2, 3, 4, 5, 6, 7, 8, 9, 10, 11, 12, 13, 14, 15, 16, 17, 18, 19, 20, 21, 22, 23, 24, 25, 26, 27, 28, 29, 30], []⟩])
(.ret)),
[.t 6], 38⟩
theorem v_liverylaw16_great_ok : compF Try.prog 40 = some v_liverylaw16_great := by kernel_rfl
def v_liverylaw16_head : VFn := ⟨.seq (.reg [⟨some 0, .mov (.c (.bool false)), none, [], []⟩])
(.seq (.reg [⟨some 21, .call 44 [(.c (.int .i64 5))], none, [], []⟩,
  ⟨some 22, .build [(.int .i64 0), (.int .i64 0), (.int .i64 0)] [(1, 2, (.t 21))], none, [0], []⟩,
  ⟨some 23, .call 44 [(.c (.int .i64 2))], none, [0], []⟩,
  ⟨some 24, .build [(.int .i64 0), (.int .i64 0), (.int .i64 0)] [(0, 1, (.c (.int .i64 10))), (1, 2, (.t 23))], none, [2], []⟩,
  ⟨some 25, .call 44 [(.c (.int .i64 5))], none, [2], []⟩,
  ⟨some 26, .build [(.int .i64 0), (.int .i64 0), (.int .i64 0)] [(0, 1, (.c (.int .i64 12))), (1, 2, (.t 25))], none, [4], []⟩,
  ⟨some 27, .build [(.int .i64 0), (.int .i64 0), (.int .i64 0)] [(0, 1, (.c (.int .i64 20)))], none, [], []⟩,
  ⟨some 28, .bsl 3 [(.t 22), (.t 24), (.t 26), (.t 27)], none, [1, 3, 5, 6], []⟩,
  ⟨some 1, .mov (.t 28), none, [7, 4, 0, 1, 2, 3, 4, 5, 6, 7], []⟩])
(.seq (.reg [⟨some 29, .build [(.int .i64 0), (.int .i64 0)] [(1, 1, (.c (.int .i64 30)))], none, [], []⟩,
  ⟨some 2, .alloc [(.int .i64 0), (.int .i64 0)], none, [], []⟩,
  ⟨none, .store 2 (.t 2) (.t 29), none, [1, 0, 0, 1], []⟩])
(.seq (.reg [⟨some 30, .call 44 [(.c (.int .i64 3))], none, [], []⟩,
  ⟨some 31, .build [(.int .i64 0), (.int .i64 0), (.int .i64 0)] [(0, 1, (.c (.int .i64 4))), (1, 2, (.t 30))], none, [0], []⟩,
  ⟨some 32, .bsl 3 [(.t 31)], none, [1], []⟩,
  ⟨some 3, .mov (.t 32), none, [2, 0, 0, 1, 2], []⟩])
(.seq (.reg [⟨some 33, .call 44 [(.c (.int .i64 3))], none, [], []⟩,
  ⟨some 34, .build [(.int .i64 0), (.int .i64 0), (.int .i64 0)] [(0, 1, (.c (.int .i64 4))), (1, 2, (.t 33))], none, [0], []⟩,
  ⟨some 35, .call 44 [(.c (.int .i64 1))], none, [0], []⟩,
  ⟨some 36, .build [(.int .i64 0), (.int .i64 0), (.int .i64 0)] [(0, 1, (.c (.int .i64 2))), (1, 2, (.t 35))], none, [2], []⟩,
  ⟨some 37, .bsl 3 [(.t 34), (.t 36)], none, [1, 3], []⟩,
  ⟨some 4, .mov (.t 37), none, [4, 2, 0, 1, 2, 3, 4], []⟩])
(.seq (.reg [⟨some 39, .mov (.t 1), none, [], []⟩,
  ⟨some 40, .load 2 true (.t 2), none, [], []⟩,
  ⟨some 41, .mov (.t 3), none, [], []⟩,
  ⟨some 42, .call 42 [(.t 39), (.t 40), (.t 41)], none, [0, 1, 2], []⟩,
  ⟨some 38, .mov (.t 42), none, [3], []⟩,
  ⟨some 43, .ext (.t 38) 0, none, [4], []⟩,
  ⟨some 44, .ext (.t 38) 1, none, [4], []⟩,
  ⟨some 5, .mov (.t 43), none, [5, 3, 0, 1, 2, 3, 4, 5], []⟩,
  ⟨some 6, .mov (.t 44), none, [6, 7, 0, 1, 2, 3, 4, 5, 6, 7], []⟩])
(.seq (.reg [⟨some 46, .mov (.t 1), none, [], []⟩,
  ⟨some 47, .load 2 true (.t 2), none, [], []⟩,
  ⟨some 48, .mov (.t 3), none, [], []⟩,
  ⟨some 49, .call 79 [(.t 46), (.t 47), (.t 48)], none, [0, 1, 2], []⟩,
  ⟨some 45, .mov (.t 49), none, [3], []⟩,
  ⟨some 50, .ext (.t 45) 0, none, [4], []⟩,
  ⟨some 51, .ext (.t 45) 1, none, [4], []⟩,
  ⟨some 7, .mov (.t 50), none, [5, 3, 0, 1, 2, 3, 4, 5], []⟩,
  ⟨some 8, .mov (.t 51), none, [6, 7, 0, 1, 2, 3, 4, 5, 6, 7], []⟩])
(.seq (.reg [⟨some 53, .mov (.t 1), none, [], []⟩,
  ⟨some 54, .load 2 true (.t 2), none, [], []⟩,
  ⟨some 55, .mov (.t 3), none, [], []⟩,
  ⟨some 56, .call 80 [(.t 53), (.t 54), (.t 55)], none, [0, 1, 2], []⟩,
  ⟨some 52, .mov (.t 56), none, [3], []⟩,
  ⟨some 57, .ext (.t 52) 0, none, [4], []⟩,
  ⟨some 58, .ext (.t 52) 1, none, [4], []⟩,
  ⟨some 9, .mov (.t 57), none, [5, 3, 0, 1, 2, 3, 4, 5], []⟩,
  ⟨some 10, .mov (.t 58), none, [6, 7, 0, 1, 2, 3, 4, 5, 6, 7], []⟩])
(.seq (.reg [⟨some 60, .mov (.t 1), none, [], []⟩,
  ⟨some 61, .build [(.int .i64 0), (.int .i64 0)] [(0, 1, (.c (.int .i64 7))), (1, 1, (.c (.int .i64 30)))], none, [], []⟩,
  ⟨some 62, .mov (.t 3), none, [], []⟩,
  ⟨some 63, .call 79 [(.t 60), (.t 61), (.t 62)], none, [0, 1, 2], []⟩,
  ⟨some 59, .mov (.t 63), none, [3], []⟩,
  ⟨some 64, .ext (.t 59) 0, none, [4], []⟩,
  ⟨some 65, .ext (.t 59) 1, none, [4], []⟩,
  ⟨some 11, .mov (.t 64), none, [5, 3, 0, 1, 2, 3, 4, 5], []⟩,
  ⟨some 12, .mov (.t 65), none, [6, 7, 0, 1, 2, 3, 4, 5, 6, 7], []⟩])
(.seq (.reg [⟨some 67, .mov (.t 1), none, [], []⟩,
  ⟨some 68, .load 2 true (.t 2), none, [], []⟩,
  ⟨some 69, .mov (.t 4), none, [], []⟩,
  ⟨some 70, .call 42 [(.t 67), (.t 68), (.t 69)], none, [0, 1, 2], []⟩,
  ⟨some 66, .mov (.t 70), none, [3], []⟩,
  ⟨some 71, .ext (.t 66) 0, none, [4], []⟩,
  ⟨some 72, .ext (.t 66) 1, none, [4], []⟩,
  ⟨some 13, .mov (.t 71), none, [5, 3, 0, 1, 2, 3, 4, 5], []⟩,
  ⟨some 14, .mov (.t 72), none, [6, 7, 0, 1, 2, 3, 4, 5, 6, 7], []⟩])
(.seq (.reg [⟨some 74, .mov (.t 4), none, [], []⟩,
  ⟨some 75, .call 81 [(.t 74)], none, [0], []⟩,
  ⟨some 73, .mov (.t 75), none, [1], []⟩,
  ⟨some 76, .ext (.t 73) 0, none, [2], []⟩,
  ⟨some 77, .ext (.t 73) 1, none, [2], []⟩,
  ⟨some 15, .mov (.t 76), none, [3, 1, 0, 1, 2, 3], []⟩,
  ⟨some 16, .mov (.t 77), none, [4, 5, 0, 1, 2, 3, 4, 5], []⟩])
(.seq (.reg [⟨some 79, .mov (.t 1), none, [], []⟩,
  ⟨some 80, .build [(.int .i64 0), (.int .i64 0)] [(0, 1, (.c (.int .i64 7))), (1, 1, (.c (.int .i64 15)))], none, [], []⟩,
  ⟨some 81, .mov (.t 3), none, [], []⟩,
  ⟨some 82, .call 79 [(.t 79), (.t 80), (.t 81)], none, [0, 1, 2], []⟩,
  ⟨some 78, .mov (.t 82), none, [3], []⟩,
  ⟨some 83, .ext (.t 78) 0, none, [4], []⟩,
  ⟨some 84, .ext (.t 78) 1, none, [4], []⟩,
  ⟨some 17, .mov (.t 83), none, [5, 3, 0, 1, 2, 3, 4, 5], []⟩,
  ⟨some 18, .mov (.t 84), none, [6, 7, 0, 1, 2, 3, 4, 5, 6, 7], []⟩])
(.seq (.reg [⟨some 86, .mov (.t 1), none, [], []⟩,
  ⟨some 87, .build [(.int .i64 0), (.int .i64 0)] [(0, 1, (.c (.int .i64 7))), (1, 1, (.c (.int .i64 7)))], none, [], []⟩,
  ⟨some 88, .mov (.t 3), none, [], []⟩,
  ⟨some 89, .call 79 [(.t 86), (.t 87), (.t 88)], none, [0, 1, 2], []⟩,
  ⟨some 85, .mov (.t 89), none, [3], []⟩,
  ⟨some 90, .ext (.t 85) 0, none, [4], []⟩,
  ⟨some 91, .ext (.t 85) 1, none, [4], []⟩,
  ⟨some 19, .mov (.t 90), none, [5, 3, 0, 1, 2, 3, 4, 5], []⟩,
  ⟨some 20, .mov (.t 91), none, [6, 7, 0, 1, 2, 3, 4, 5, 6, 7], []⟩])
(.seq (.reg [⟨some 92, .mov (.t 5), none, [], []⟩,
  ⟨some 93, .build [(.int .i64 0), (.int .i64 0)] [(1, 1, (.c (.int .i64 7)))], none, [], []⟩,
  ⟨some 94, .build [(.int .i64 0), (.int .i64 0)] [(0, 1, (.c (.int .i64 12))), (1, 1, (.c (.int .i64 17)))], none, [], []⟩,
  ⟨some 95, .bsl 2 [(.t 93), (.t 94)], none, [1, 2], []⟩,
  ⟨some 96, .call 43 [(.t 92), (.t 95)], none, [0, 3], []⟩,
  ⟨some 97, .mov (.t 96), none, [4, 4], []⟩,
  ⟨some 98, .mov (.t 6), some (97, true), [5], []⟩,
  ⟨some 99, .bin .eql (.t 98) (.c (.int .i64 0)), some (97, true), [6, 5], []⟩,
  ⟨some 100, .pick (.t 97) (.t 99) (.c (.bool false)), none, [5, 7], []⟩,
  ⟨some 101, .mov (.t 100), none, [8, 5], []⟩,
  ⟨some 102, .mov (.t 7), some (101, true), [9], []⟩,
  ⟨some 103, .bin .eql (.t 102) (.c (.int .i64 0)), some (101, true), [10, 9], []⟩,
  ⟨some 104, .pick (.t 101) (.t 103) (.c (.bool false)), none, [9, 11], []⟩,
  ⟨some 105, .mov (.t 104), none, [12, 9], []⟩,
  ⟨some 106, .mov (.t 8), some (105, true), [13], []⟩,
  ⟨some 107, .bin .eql (.t 106) (.c (.int .i64 0)), some (105, true), [14, 13], []⟩,
  ⟨some 108, .pick (.t 105) (.t 107) (.c (.bool false)), none, [13, 15], []⟩,
  ⟨some 109, .mov (.t 108), none, [16, 13], []⟩,
  ⟨some 110, .mov (.t 9), some (109, true), [17], []⟩,
  ⟨some 111, .bin .eql (.t 110) (.c (.int .i64 16)), some (109, true), [18, 17], []⟩,
  ⟨some 112, .pick (.t 109) (.t 111) (.c (.bool false)), none, [17, 19], []⟩,
  ⟨some 113, .mov (.t 112), none, [20, 17], []⟩,
  ⟨some 114, .mov (.t 10), some (113, true), [21], []⟩,
  ⟨some 115, .bin .eql (.t 114) (.c (.int .i64 0)), some (113, true), [22, 21], []⟩,
  ⟨some 116, .pick (.t 113) (.t 115) (.c (.bool false)), none, [21, 23], []⟩,
  ⟨some 117, .mov (.t 116), none, [24, 21], []⟩,
  ⟨some 118, .mov (.t 11), some (117, true), [25], []⟩,
  ⟨some 119, .bin .eql (.t 118) (.c (.int .i64 12)), some (117, true), [26, 25], []⟩,
  ⟨some 120, .pick (.t 117) (.t 119) (.c (.bool false)), none, [25, 27], []⟩,
  ⟨some 121, .mov (.t 120), none, [28, 25], []⟩,
  ⟨some 122, .mov (.t 12), some (121, true), [29], []⟩,
  ⟨some 123, .bin .eql (.t 122) (.c (.int .i64 0)), some (121, true), [30, 29], []⟩,
  ⟨some 124, .pick (.t 121) (.t 123) (.c (.bool false)), none, [29, 31], []⟩,
  ⟨some 125, .mov (.t 124), none, [32, 29], []⟩,
  ⟨some 126, .mov (.t 13), some (125, true), [33], []⟩,
  ⟨some 127, .build [(.int .i64 0), (.int .i64 0)] [(1, 1, (.c (.int .i64 7)))], some (125, true), [33], []⟩,
  ⟨some 128, .build [(.int .i64 0), (.int .i64 0)] [(0, 1, (.c (.int .i64 12))), (1, 1, (.c (.int .i64 15)))], some (125, true), [33], []⟩,
  ⟨some 129, .bsl 2 [(.t 127), (.t 128)], some (125, true), [35, 36, 33], []⟩,
  ⟨some 130, .call 43 [(.t 126), (.t 129)], some (125, true), [34, 37, 33, 33], []⟩,
  ⟨some 131, .pick (.t 125) (.t 130) (.c (.bool false)), none, [33, 38], []⟩,
  ⟨some 132, .mov (.t 131), none, [39, 38], []⟩,
  ⟨some 133, .mov (.t 14), some (132, true), [40], []⟩,
  ⟨some 134, .bin .eql (.t 133) (.c (.int .i64 0)), some (132, true), [41, 40], []⟩,
  ⟨some 135, .pick (.t 132) (.t 134) (.c (.bool false)), none, [40, 42], []⟩,
  ⟨some 136, .mov (.t 135), none, [43, 40], []⟩,
  ⟨some 137, .mov (.t 15), some (136, true), [44], []⟩,
  ⟨some 138, .bin .eql (.t 137) (.c (.int .i64 6)), some (136, true), [45, 44], []⟩,
  ⟨some 139, .pick (.t 136) (.t 138) (.c (.bool false)), none, [44, 46], []⟩,
  ⟨some 140, .mov (.t 139), none, [47, 44], []⟩,
  ⟨some 141, .mov (.t 16), some (140, true), [48], []⟩,
  ⟨some 142, .bin .eql (.t 141) (.c (.int .i64 0)), some (140, true), [49, 48], []⟩,
  ⟨some 143, .pick (.t 140) (.t 142) (.c (.bool false)), none, [48, 50], []⟩,
  ⟨some 144, .mov (.t 143), none, [51, 48], []⟩,
  ⟨some 145, .mov (.t 18), some (144, true), [52], []⟩,
  ⟨some 146, .bin .eql (.t 145) (.c (.int .i64 210)), some (144, true), [53, 52], []⟩,
  ⟨some 147, .pick (.t 144) (.t 146) (.c (.bool false)), none, [52, 54], []⟩,
  ⟨some 148, .mov (.t 147), none, [55, 52], []⟩,
  ⟨some 149, .mov (.t 20), some (148, true), [56], []⟩,
  ⟨some 150, .bin .eql (.t 149) (.c (.int .i64 2)), some (148, true), [57, 56], []⟩,
  ⟨some 151, .pick (.t 148) (.t 150) (.c (.bool false)), none, [56, 58], []⟩,
  ⟨some 0, .mov (.t 151), none, [59, 56, 0, 1, 2, 3, 4, 5, 6, 7, 8, 9, 10, 11, 12, 13, 14, 15, 16, 17, 18, 19, 20, 21, 22, 23, 24, 25, 26, 27, 28, 29, 30, 31, 32, 33, 34, 35, 36, 37, 38, 39, 40, 41, 42, 43, 44, 45, 46, 47, 48, 49, 50, 51, 52, 53, 54, 55, 56, 57, 58, 59], []⟩])
(.ret)))))))))))))),
[.t 0], 152⟩
theorem v_liverylaw16_head_ok : compF Try.prog 41 = some v_liverylaw16_head := by kernel_rfl
def v_liverylaw16_v : VFn := ⟨.seq (.reg [⟨some 2, .alloc [(.int .i64 0), (.int .i64 0)], none, [], []⟩])
(.seq (.reg [⟨some 3, .mov (.t 0), none, [], []⟩,
  ⟨some 4, .mov (.t 0), none, [], []⟩,
  ⟨some 5, .build [(.int .i64 0), (.int .i64 0)] [(0, 1, (.t 3)), (1, 1, (.t 4))], none, [0, 1], []⟩,
  ⟨none, .store 2 (.t 2) (.t 5), none, [2, 0, 1, 2], []⟩])
(.ret)),
[.c 2 2 true], 6⟩
theorem v_liverylaw16_v_ok : compF Try.prog 44 = some v_liverylaw16_v := by kernel_rfl
end Go.Proofs.Ytddbnncimggogaa.V
end
section
set_option linter.unusedSimpArgs false
set_option linter.unusedVariables false
/- slot.Earliest, Latest; liveryref16.Same; liverylaw16.v, head, great. -/
namespace Go.Proofs.Ytddbnncimggogaa.V
open Go Go.Proofs
set_option maxRecDepth 100000
set_option maxHeartbeats 4000000
theorem Earliest1_v (l : List Vec) (hn : l ≠ []) (hl : l.length ≤ 1000000000) (t : Tok) : VPure Try.prog 123 [.sl (l.map Vec.a) t] (.int .i64 ((l.head?.map (·.m)).getD 0)) := by
  have h0 : 0 < l.length := List.length_pos_iff.2 hn
  have HH : Hid ((l.head?.map (·.m)).getD 0 = l[0].m) := ⟨by rw [List.head?_eq_getElem?, List.getElem?_eq_getElem h0]; rfl⟩
  rw [HH.out]
  obtain ⟨x, hx⟩ : ∃ x, l[0] = x := ⟨_, rfl⟩
  refine VPure.of v_slot_Earliest_1_ok (Nat.le_of_ble_eq_true rfl) (fun Z st => ?_)
  simp only [v_slot_Earliest_1, ↓vD, vU, VE.ev, VE.evs, retvs, tupOf, grab, vfill, vbsl, eqCells, eqCell, veqs, veqs1, vmnx, AV.isCell, AV.isUndef, Nat.reduceEqDiff, Nat.reduceAdd, Nat.reduceSub, Nat.reduceLeDiff, Nat.reduceLT, reduceIte, reduceCtorEq, Nat.reduceBEq, k_app, k_slc1]
  (repeat' (first | (simp (config := { maxDischargeDepth := 16 }) only [*, Vec.a, vX, Int.reduceLE, Int.reduceLT, Int.reduceGE, Int.reduceGT, Int.reduceBEq, Int.reduceBNe, Int.reduceAdd, Int.reduceSub, Int.reduceMul, Int.reduceNeg, ↓vD, vU, VE.ev, VE.evs, retvs, tupOf, grab, vfill, vbsl, eqCells, eqCell, veqs, veqs1, vmnx, AV.isCell, AV.isUndef, Nat.reduceEqDiff, Nat.reduceAdd, Nat.reduceSub, Nat.reduceLeDiff, Nat.reduceLT, reduceIte, reduceCtorEq, Nat.reduceBEq]) | (simp (disch := first | assumption | omega | exact Seg.len _ | exact Vec.len _ | exact Leg.len _ | exact num_len _ | exact rowA_len _ | exact rowA_len | exact rowT_len _ | exact rowT_len | exact Seg.len | exact Vec.len | exact Leg.len | exact num_len | exact AV.slen _ _ | rfl) only [Vec.a, vP]) | (with_reducible (first | refine gsnd (fun _ => ?_) (fun _ => ?_) | refine csnd (fun _ => ?_) (fun _ => ?_) | refine gsd (fun _ => ?_) (fun _ => ?_) | refine csd (fun _ => ?_) (fun _ => ?_) | refine gsn (fun _ => ?_) (fun _ => ?_) | refine csn (fun _ => ?_) (fun _ => ?_))) | (with_reducible refine gs (fun _ => ?_) (fun _ => ?_)) | (with_reducible refine cs_ (fun _ => ?_) (fun _ => ?_)) | (with_reducible refine objQ_i (fun _ _ => ?_); (repeat (with_reducible refine imp_i (fun _ => ?_)))) | ((try with_reducible refine appK_a ?_); first | (with_reducible refine appD_F (by refine ⟨?_, ?_, ?_, ?_⟩ <;> (first | assumption | omega | exact St.has_add (by assumption) | (simp only [ins_has]; exact St.has_add (by assumption)) | (simp only [ins_has, fresh_ins, kill_ins, add_ins] at *; exact St.has_add (by assumption)) | (simp only [*, ins_has, has_full, St.has_add]; done) | (simp [-List.map_take, -List.map_drop, or_imp, forall_and, Seg.a, Vec.a, Leg.a, num, okEl, cells_agg, cells_int, cells_sl, cells_bool, AV.isCell]; done) | (simp; omega))) (fun _ _ => ?_)) | (with_reducible refine appD_V (by refine ⟨?_, ?_, ?_, ?_, ?_⟩ <;> (first | assumption | omega | exact St.has_add (by assumption) | (simp only [ins_has]; exact St.has_add (by assumption)) | (simp only [ins_has, fresh_ins, kill_ins, add_ins] at *; exact St.has_add (by assumption)) | (simp only [*, ins_has, has_full, St.has_add]; done) | (simp [-List.map_take, -List.map_drop, or_imp, forall_and, Seg.a, Vec.a, Leg.a, num, okEl, cells_agg, cells_int, cells_sl, cells_bool, AV.isCell]; done) | (simp; omega))) (fun _ _ => ?_))) | (with_reducible refine freshQ_i (fun _ _ => ?_)) | (with_reducible refine nilQ_i (fun _ _ => ?_))))
theorem Latest1_v (l : List Vec) (hn : l ≠ []) (hl : l.length ≤ 1000000000) (hb : ∀ x ∈ l, -9000000000000000000 ≤ x.c ∧ x.c ≤ 9000000000000000000) (t : Tok) : VPure Try.prog 124 [.sl (l.map Vec.a) t] (.int .i64 ((l.getLast?.map (·.c)).getD 0 - 1)) := by
  have h0 : 0 < l.length := List.length_pos_iff.2 hn
  obtain ⟨x, hx⟩ : ∃ x, l.getD (l.length - 1) default = x := ⟨_, rfl⟩
  have hg : l.getLast? = some x := by
    rw [List.getLast?_eq_getElem?, ← hx, List.getD_eq_getElem?_getD, List.getElem?_eq_getElem (by omega)]; rfl
  have hxm := hb x (by rw [← hx, List.getD_eq_getElem?_getD, List.getElem?_eq_getElem (by omega)]; exact List.getElem_mem _)
  rw [hg]
  have ha := e_iadG Vec.a l t .i64 ((l.length : Int) - 1) 2 (by omega) (by omega) rfl (by omega)
  have e1 : ((l.length : Int) - 1).toNat = l.length - 1 := by omega
  rw [e1, hx] at ha
  clear e1 hx hg
  have hw : IntKind.i64.wrap ((l.length : Int) - 1) = (l.length : Int) - 1 := wrap_i64 _ (by omega) (by omega)
  have hw2 : IntKind.i64.wrap (x.c - 1) = x.c - 1 := wrap_i64 _ (by omega) (by omega)
  refine VPure.of v_slot_Latest_1_ok (Nat.le_of_ble_eq_true rfl) (fun Z st => ?_)
  simp only [v_slot_Latest_1, ↓vD, vU, VE.ev, VE.evs, retvs, tupOf, grab, vfill, vbsl, eqCells, eqCell, veqs, veqs1, vmnx, AV.isCell, AV.isUndef, Nat.reduceEqDiff, Nat.reduceAdd, Nat.reduceSub, Nat.reduceLeDiff, Nat.reduceLT, reduceIte, reduceCtorEq, Nat.reduceBEq, k_app, k_slc1]
  (repeat' (first | (simp (config := { maxDischargeDepth := 16 }) only [*, Vec.a, vX, Int.reduceLE, Int.reduceLT, Int.reduceGE, Int.reduceGT, Int.reduceBEq, Int.reduceBNe, Int.reduceAdd, Int.reduceSub, Int.reduceMul, Int.reduceNeg, ↓vD, vU, VE.ev, VE.evs, retvs, tupOf, grab, vfill, vbsl, eqCells, eqCell, veqs, veqs1, vmnx, AV.isCell, AV.isUndef, Nat.reduceEqDiff, Nat.reduceAdd, Nat.reduceSub, Nat.reduceLeDiff, Nat.reduceLT, reduceIte, reduceCtorEq, Nat.reduceBEq]) | (simp (disch := first | assumption | omega | exact Seg.len _ | exact Vec.len _ | exact Leg.len _ | exact num_len _ | exact rowA_len _ | exact rowA_len | exact rowT_len _ | exact rowT_len | exact Seg.len | exact Vec.len | exact Leg.len | exact num_len | exact AV.slen _ _ | rfl) only [Vec.a, vP]) | (with_reducible (first | refine gsnd (fun _ => ?_) (fun _ => ?_) | refine csnd (fun _ => ?_) (fun _ => ?_) | refine gsd (fun _ => ?_) (fun _ => ?_) | refine csd (fun _ => ?_) (fun _ => ?_) | refine gsn (fun _ => ?_) (fun _ => ?_) | refine csn (fun _ => ?_) (fun _ => ?_))) | (with_reducible refine gs (fun _ => ?_) (fun _ => ?_)) | (with_reducible refine cs_ (fun _ => ?_) (fun _ => ?_)) | (with_reducible refine objQ_i (fun _ _ => ?_); (repeat (with_reducible refine imp_i (fun _ => ?_)))) | ((try with_reducible refine appK_a ?_); first | (with_reducible refine appD_F (by refine ⟨?_, ?_, ?_, ?_⟩ <;> (first | assumption | omega | exact St.has_add (by assumption) | (simp only [ins_has]; exact St.has_add (by assumption)) | (simp only [ins_has, fresh_ins, kill_ins, add_ins] at *; exact St.has_add (by assumption)) | (simp only [*, ins_has, has_full, St.has_add]; done) | (simp [-List.map_take, -List.map_drop, or_imp, forall_and, Seg.a, Vec.a, Leg.a, num, okEl, cells_agg, cells_int, cells_sl, cells_bool, AV.isCell]; done) | (simp; omega))) (fun _ _ => ?_)) | (with_reducible refine appD_V (by refine ⟨?_, ?_, ?_, ?_, ?_⟩ <;> (first | assumption | omega | exact St.has_add (by assumption) | (simp only [ins_has]; exact St.has_add (by assumption)) | (simp only [ins_has, fresh_ins, kill_ins, add_ins] at *; exact St.has_add (by assumption)) | (simp only [*, ins_has, has_full, St.has_add]; done) | (simp [-List.map_take, -List.map_drop, or_imp, forall_and, Seg.a, Vec.a, Leg.a, num, okEl, cells_agg, cells_int, cells_sl, cells_bool, AV.isCell]; done) | (simp; omega))) (fun _ _ => ?_))) | (with_reducible refine freshQ_i (fun _ _ => ?_)) | (with_reducible refine nilQ_i (fun _ _ => ?_))))
  all_goals simp
/-- What is told of begins: the first one, or an error. -/
def askF (g : List Vec → Int) (b : List Vec × Int) : Int × Int := if b.2 ≠ 0 then (0, b.2) else if b.1 = [] then (0, 210) else (g b.1, 0)
theorem beginsF_len (f : List Seg) (w : Vec) (l : List Leg) : (beginsF f w l).1.length ≤ 5000 ∧ ∀ x ∈ (beginsF f w l).1, -9000000000000000000 ≤ x.c ∧ x.c ≤ 9000000000000000000 := by
  by_cases h : (checkF f w l).2 = 0
  · have hO := check_ok.1 h
    have hr := (begins_is hO).1
    have h1 := hO.win
    have h2 := hO.span
    have h3 := hO.from_
    have h4 := hO.to_
    simp only [farF, Bool.or_eq_false_iff, decide_eq_false_iff_not] at h3 h4
    refine ⟨?_, ?_⟩
    · have := hr.rows.len (by omega)
      omega
    · have key : ∀ (l : List Vec) (lo : Int), w.m ≤ lo → RowsG lo (w.c + 1) l → ∀ x ∈ l, w.m ≤ x.c ∧ x.c ≤ w.c + 1 := by
        intro l
        induction l with
        | nil => intro _ _ _ x hx; cases hx
        | cons y r ih =>
          rintro lo hlo ⟨a, b, c, d⟩ x hx
          rcases List.mem_cons.1 hx with rfl | hx
          · omega
          · exact ih _ (by omega) d x hx
      intro x hx
      have := key _ _ (Int.le_refl _) hr x hx
      omega
  · have : (beginsF f w l).1 = [] := by unfold beginsF; rw [if_pos (.inl h)]
    rw [this]; simp
theorem Earliest_c (f : List Seg) (hf : f.length ≤ 1000000) (w : Vec) (h1 : -9223372036854775808 ≤ w.m) (h2 : w.c ≤ 9223372036854775807) (l : List Leg) (hl : l.length ≤ 1000000000) (t t' : Tok) :
    VPure Try.prog 79 [.sl (f.map Seg.a) t, .agg [.int .i64 w.m, .int .i64 w.c], .sl (l.map Leg.a) t'] (.tup [num (askF (fun b => (b.head?.map (·.m)).getD 0) (beginsF f w l)).1, num (askF (fun b => (b.head?.map (·.m)).getD 0) (beginsF f w l)).2]) := by
  have hB := Begins_c f hf w h1 h2 l hl t t'
  have hlen := beginsF_len f w l
  obtain ⟨b, hb⟩ : ∃ b, beginsF f w l = b := ⟨_, rfl⟩
  rw [hb] at hB hlen ⊢
  have hE := end_v b.1 (by omega) .no (gf := 123) (fs := []) (cs := []) (fun b : List Vec => (b.head?.map Vec.m).getD 0) (fun hne => Earliest1_v b.1 hne (by omega) .no)
  unfold num at hB hE
  have HA : Hid (askF (fun b => (b.head?.map (·.m)).getD 0) b = if b.2 ≠ 0 then (0, b.2) else if b.1 = [] then (0, 210) else ((b.1.head?.map (·.m)).getD 0, 0)) := ⟨rfl⟩
  clear hb hlen
  refine VPure.of v_slot_Earliest_ok (Nat.le_of_ble_eq_true rfl) (fun Z st => ?_)
  simp only [v_slot_Earliest, ↓vD, vU, VE.ev, VE.evs, retvs, tupOf, grab, vfill, vbsl, eqCells, eqCell, veqs, veqs1, vmnx, AV.isCell, AV.isUndef, Nat.reduceEqDiff, Nat.reduceAdd, Nat.reduceSub, Nat.reduceLeDiff, Nat.reduceLT, reduceIte, reduceCtorEq, Nat.reduceBEq, k_app, k_slc1]
  by_cases h0 : b.2 = 0
  · (repeat' (first | (simp (config := { maxDischargeDepth := 16 }) only [*, num, vX, Int.reduceLE, Int.reduceLT, Int.reduceGE, Int.reduceGT, Int.reduceBEq, Int.reduceBNe, Int.reduceAdd, Int.reduceSub, Int.reduceMul, Int.reduceNeg, ↓vD, vU, VE.ev, VE.evs, retvs, tupOf, grab, vfill, vbsl, eqCells, eqCell, veqs, veqs1, vmnx, AV.isCell, AV.isUndef, Nat.reduceEqDiff, Nat.reduceAdd, Nat.reduceSub, Nat.reduceLeDiff, Nat.reduceLT, reduceIte, reduceCtorEq, Nat.reduceBEq]) | (simp (disch := first | assumption | omega | exact Seg.len _ | exact Vec.len _ | exact Leg.len _ | exact num_len _ | exact rowA_len _ | exact rowA_len | exact rowT_len _ | exact rowT_len | exact Seg.len | exact Vec.len | exact Leg.len | exact num_len | exact AV.slen _ _ | rfl) only [num, vP]) | (with_reducible (first | refine gsnd (fun _ => ?_) (fun _ => ?_) | refine csnd (fun _ => ?_) (fun _ => ?_) | refine gsd (fun _ => ?_) (fun _ => ?_) | refine csd (fun _ => ?_) (fun _ => ?_) | refine gsn (fun _ => ?_) (fun _ => ?_) | refine csn (fun _ => ?_) (fun _ => ?_))) | (with_reducible refine gs (fun _ => ?_) (fun _ => ?_)) | (with_reducible refine cs_ (fun _ => ?_) (fun _ => ?_)) | (with_reducible refine objQ_i (fun _ _ => ?_); (repeat (with_reducible refine imp_i (fun _ => ?_)))) | ((try with_reducible refine appK_a ?_); first | (with_reducible refine appD_F (by refine ⟨?_, ?_, ?_, ?_⟩ <;> (first | assumption | omega | exact St.has_add (by assumption) | (simp only [ins_has]; exact St.has_add (by assumption)) | (simp only [ins_has, fresh_ins, kill_ins, add_ins] at *; exact St.has_add (by assumption)) | (simp only [*, ins_has, has_full, St.has_add]; done) | (simp [-List.map_take, -List.map_drop, or_imp, forall_and, Seg.a, Vec.a, Leg.a, num, okEl, cells_agg, cells_int, cells_sl, cells_bool, AV.isCell]; done) | (simp; omega))) (fun _ _ => ?_)) | (with_reducible refine appD_V (by refine ⟨?_, ?_, ?_, ?_, ?_⟩ <;> (first | assumption | omega | exact St.has_add (by assumption) | (simp only [ins_has]; exact St.has_add (by assumption)) | (simp only [ins_has, fresh_ins, kill_ins, add_ins] at *; exact St.has_add (by assumption)) | (simp only [*, ins_has, has_full, St.has_add]; done) | (simp [-List.map_take, -List.map_drop, or_imp, forall_and, Seg.a, Vec.a, Leg.a, num, okEl, cells_agg, cells_int, cells_sl, cells_bool, AV.isCell]; done) | (simp; omega))) (fun _ _ => ?_))) | (with_reducible refine freshQ_i (fun _ _ => ?_)) | (with_reducible refine nilQ_i (fun _ _ => ?_)) | (with_reducible first | refine callH_use (hB) ?_ | refine pureQ_use (hB) ?_) | (with_reducible first | refine callH_use (hE) ?_ | refine pureQ_use (hE) ?_)))
    all_goals (rw [HA.out]; by_cases hn : b.1 = [] <;> simp [h0, hn])
  · (repeat' (first | (simp (config := { maxDischargeDepth := 16 }) only [*, num, vX, Int.reduceLE, Int.reduceLT, Int.reduceGE, Int.reduceGT, Int.reduceBEq, Int.reduceBNe, Int.reduceAdd, Int.reduceSub, Int.reduceMul, Int.reduceNeg, ↓vD, vU, VE.ev, VE.evs, retvs, tupOf, grab, vfill, vbsl, eqCells, eqCell, veqs, veqs1, vmnx, AV.isCell, AV.isUndef, Nat.reduceEqDiff, Nat.reduceAdd, Nat.reduceSub, Nat.reduceLeDiff, Nat.reduceLT, reduceIte, reduceCtorEq, Nat.reduceBEq]) | (simp (disch := first | assumption | omega | exact Seg.len _ | exact Vec.len _ | exact Leg.len _ | exact num_len _ | exact rowA_len _ | exact rowA_len | exact rowT_len _ | exact rowT_len | exact Seg.len | exact Vec.len | exact Leg.len | exact num_len | exact AV.slen _ _ | rfl) only [num, vP]) | (with_reducible (first | refine gsnd (fun _ => ?_) (fun _ => ?_) | refine csnd (fun _ => ?_) (fun _ => ?_) | refine gsd (fun _ => ?_) (fun _ => ?_) | refine csd (fun _ => ?_) (fun _ => ?_) | refine gsn (fun _ => ?_) (fun _ => ?_) | refine csn (fun _ => ?_) (fun _ => ?_))) | (with_reducible refine gs (fun _ => ?_) (fun _ => ?_)) | (with_reducible refine cs_ (fun _ => ?_) (fun _ => ?_)) | (with_reducible refine objQ_i (fun _ _ => ?_); (repeat (with_reducible refine imp_i (fun _ => ?_)))) | ((try with_reducible refine appK_a ?_); first | (with_reducible refine appD_F (by refine ⟨?_, ?_, ?_, ?_⟩ <;> (first | assumption | omega | exact St.has_add (by assumption) | (simp only [ins_has]; exact St.has_add (by assumption)) | (simp only [ins_has, fresh_ins, kill_ins, add_ins] at *; exact St.has_add (by assumption)) | (simp only [*, ins_has, has_full, St.has_add]; done) | (simp [-List.map_take, -List.map_drop, or_imp, forall_and, Seg.a, Vec.a, Leg.a, num, okEl, cells_agg, cells_int, cells_sl, cells_bool, AV.isCell]; done) | (simp; omega))) (fun _ _ => ?_)) | (with_reducible refine appD_V (by refine ⟨?_, ?_, ?_, ?_, ?_⟩ <;> (first | assumption | omega | exact St.has_add (by assumption) | (simp only [ins_has]; exact St.has_add (by assumption)) | (simp only [ins_has, fresh_ins, kill_ins, add_ins] at *; exact St.has_add (by assumption)) | (simp only [*, ins_has, has_full, St.has_add]; done) | (simp [-List.map_take, -List.map_drop, or_imp, forall_and, Seg.a, Vec.a, Leg.a, num, okEl, cells_agg, cells_int, cells_sl, cells_bool, AV.isCell]; done) | (simp; omega))) (fun _ _ => ?_))) | (with_reducible refine freshQ_i (fun _ _ => ?_)) | (with_reducible refine nilQ_i (fun _ _ => ?_)) | (with_reducible first | refine callH_use (hB) ?_ | refine pureQ_use (hB) ?_) | (with_reducible first | refine callH_use (hE) ?_ | refine pureQ_use (hE) ?_)))
    all_goals (rw [HA.out]; simp [h0])
theorem Latest_c (f : List Seg) (hf : f.length ≤ 1000000) (w : Vec) (h1 : -9223372036854775808 ≤ w.m) (h2 : w.c ≤ 9223372036854775807) (l : List Leg) (hl : l.length ≤ 1000000000) (t t' : Tok) :
    VPure Try.prog 80 [.sl (f.map Seg.a) t, .agg [.int .i64 w.m, .int .i64 w.c], .sl (l.map Leg.a) t'] (.tup [num (askF (fun b => (b.getLast?.map (·.c)).getD 0 - 1) (beginsF f w l)).1, num (askF (fun b => (b.getLast?.map (·.c)).getD 0 - 1) (beginsF f w l)).2]) := by
  have hB := Begins_c f hf w h1 h2 l hl t t'
  have hlen := beginsF_len f w l
  obtain ⟨b, hb⟩ : ∃ b, beginsF f w l = b := ⟨_, rfl⟩
  rw [hb] at hB hlen ⊢
  have hE := end_v b.1 (by omega) .no (gf := 124) (fs := []) (cs := []) (fun b : List Vec => (b.getLast?.map Vec.c).getD 0 - 1) (fun hne => Latest1_v b.1 hne (by omega) hlen.2 .no)
  unfold num at hB hE
  have HA : Hid (askF (fun b => (b.getLast?.map (·.c)).getD 0 - 1) b = if b.2 ≠ 0 then (0, b.2) else if b.1 = [] then (0, 210) else ((b.1.getLast?.map (·.c)).getD 0 - 1, 0)) := ⟨rfl⟩
  clear hb hlen
  refine VPure.of v_slot_Latest_ok (Nat.le_of_ble_eq_true rfl) (fun Z st => ?_)
  simp only [v_slot_Latest, ↓vD, vU, VE.ev, VE.evs, retvs, tupOf, grab, vfill, vbsl, eqCells, eqCell, veqs, veqs1, vmnx, AV.isCell, AV.isUndef, Nat.reduceEqDiff, Nat.reduceAdd, Nat.reduceSub, Nat.reduceLeDiff, Nat.reduceLT, reduceIte, reduceCtorEq, Nat.reduceBEq, k_app, k_slc1]
  by_cases h0 : b.2 = 0
  · (repeat' (first | (simp (config := { maxDischargeDepth := 16 }) only [*, num, vX, Int.reduceLE, Int.reduceLT, Int.reduceGE, Int.reduceGT, Int.reduceBEq, Int.reduceBNe, Int.reduceAdd, Int.reduceSub, Int.reduceMul, Int.reduceNeg, ↓vD, vU, VE.ev, VE.evs, retvs, tupOf, grab, vfill, vbsl, eqCells, eqCell, veqs, veqs1, vmnx, AV.isCell, AV.isUndef, Nat.reduceEqDiff, Nat.reduceAdd, Nat.reduceSub, Nat.reduceLeDiff, Nat.reduceLT, reduceIte, reduceCtorEq, Nat.reduceBEq]) | (simp (disch := first | assumption | omega | exact Seg.len _ | exact Vec.len _ | exact Leg.len _ | exact num_len _ | exact rowA_len _ | exact rowA_len | exact rowT_len _ | exact rowT_len | exact Seg.len | exact Vec.len | exact Leg.len | exact num_len | exact AV.slen _ _ | rfl) only [num, vP]) | (with_reducible (first | refine gsnd (fun _ => ?_) (fun _ => ?_) | refine csnd (fun _ => ?_) (fun _ => ?_) | refine gsd (fun _ => ?_) (fun _ => ?_) | refine csd (fun _ => ?_) (fun _ => ?_) | refine gsn (fun _ => ?_) (fun _ => ?_) | refine csn (fun _ => ?_) (fun _ => ?_))) | (with_reducible refine gs (fun _ => ?_) (fun _ => ?_)) | (with_reducible refine cs_ (fun _ => ?_) (fun _ => ?_)) | (with_reducible refine objQ_i (fun _ _ => ?_); (repeat (with_reducible refine imp_i (fun _ => ?_)))) | ((try with_reducible refine appK_a ?_); first | (with_reducible refine appD_F (by refine ⟨?_, ?_, ?_, ?_⟩ <;> (first | assumption | omega | exact St.has_add (by assumption) | (simp only [ins_has]; exact St.has_add (by assumption)) | (simp only [ins_has, fresh_ins, kill_ins, add_ins] at *; exact St.has_add (by assumption)) | (simp only [*, ins_has, has_full, St.has_add]; done) | (simp [-List.map_take, -List.map_drop, or_imp, forall_and, Seg.a, Vec.a, Leg.a, num, okEl, cells_agg, cells_int, cells_sl, cells_bool, AV.isCell]; done) | (simp; omega))) (fun _ _ => ?_)) | (with_reducible refine appD_V (by refine ⟨?_, ?_, ?_, ?_, ?_⟩ <;> (first | assumption | omega | exact St.has_add (by assumption) | (simp only [ins_has]; exact St.has_add (by assumption)) | (simp only [ins_has, fresh_ins, kill_ins, add_ins] at *; exact St.has_add (by assumption)) | (simp only [*, ins_has, has_full, St.has_add]; done) | (simp [-List.map_take, -List.map_drop, or_imp, forall_and, Seg.a, Vec.a, Leg.a, num, okEl, cells_agg, cells_int, cells_sl, cells_bool, AV.isCell]; done) | (simp; omega))) (fun _ _ => ?_))) | (with_reducible refine freshQ_i (fun _ _ => ?_)) | (with_reducible refine nilQ_i (fun _ _ => ?_)) | (with_reducible first | refine callH_use (hB) ?_ | refine pureQ_use (hB) ?_) | (with_reducible first | refine callH_use (hE) ?_ | refine pureQ_use (hE) ?_)))
    all_goals (rw [HA.out]; by_cases hn : b.1 = [] <;> simp [h0, hn])
  · (repeat' (first | (simp (config := { maxDischargeDepth := 16 }) only [*, num, vX, Int.reduceLE, Int.reduceLT, Int.reduceGE, Int.reduceGT, Int.reduceBEq, Int.reduceBNe, Int.reduceAdd, Int.reduceSub, Int.reduceMul, Int.reduceNeg, ↓vD, vU, VE.ev, VE.evs, retvs, tupOf, grab, vfill, vbsl, eqCells, eqCell, veqs, veqs1, vmnx, AV.isCell, AV.isUndef, Nat.reduceEqDiff, Nat.reduceAdd, Nat.reduceSub, Nat.reduceLeDiff, Nat.reduceLT, reduceIte, reduceCtorEq, Nat.reduceBEq]) | (simp (disch := first | assumption | omega | exact Seg.len _ | exact Vec.len _ | exact Leg.len _ | exact num_len _ | exact rowA_len _ | exact rowA_len | exact rowT_len _ | exact rowT_len | exact Seg.len | exact Vec.len | exact Leg.len | exact num_len | exact AV.slen _ _ | rfl) only [num, vP]) | (with_reducible (first | refine gsnd (fun _ => ?_) (fun _ => ?_) | refine csnd (fun _ => ?_) (fun _ => ?_) | refine gsd (fun _ => ?_) (fun _ => ?_) | refine csd (fun _ => ?_) (fun _ => ?_) | refine gsn (fun _ => ?_) (fun _ => ?_) | refine csn (fun _ => ?_) (fun _ => ?_))) | (with_reducible refine gs (fun _ => ?_) (fun _ => ?_)) | (with_reducible refine cs_ (fun _ => ?_) (fun _ => ?_)) | (with_reducible refine objQ_i (fun _ _ => ?_); (repeat (with_reducible refine imp_i (fun _ => ?_)))) | ((try with_reducible refine appK_a ?_); first | (with_reducible refine appD_F (by refine ⟨?_, ?_, ?_, ?_⟩ <;> (first | assumption | omega | exact St.has_add (by assumption) | (simp only [ins_has]; exact St.has_add (by assumption)) | (simp only [ins_has, fresh_ins, kill_ins, add_ins] at *; exact St.has_add (by assumption)) | (simp only [*, ins_has, has_full, St.has_add]; done) | (simp [-List.map_take, -List.map_drop, or_imp, forall_and, Seg.a, Vec.a, Leg.a, num, okEl, cells_agg, cells_int, cells_sl, cells_bool, AV.isCell]; done) | (simp; omega))) (fun _ _ => ?_)) | (with_reducible refine appD_V (by refine ⟨?_, ?_, ?_, ?_, ?_⟩ <;> (first | assumption | omega | exact St.has_add (by assumption) | (simp only [ins_has]; exact St.has_add (by assumption)) | (simp only [ins_has, fresh_ins, kill_ins, add_ins] at *; exact St.has_add (by assumption)) | (simp only [*, ins_has, has_full, St.has_add]; done) | (simp [-List.map_take, -List.map_drop, or_imp, forall_and, Seg.a, Vec.a, Leg.a, num, okEl, cells_agg, cells_int, cells_sl, cells_bool, AV.isCell]; done) | (simp; omega))) (fun _ _ => ?_))) | (with_reducible refine freshQ_i (fun _ _ => ?_)) | (with_reducible refine nilQ_i (fun _ _ => ?_)) | (with_reducible first | refine callH_use (hB) ?_ | refine pureQ_use (hB) ?_) | (with_reducible first | refine callH_use (hE) ?_ | refine pureQ_use (hE) ?_)))
    all_goals (rw [HA.out]; simp [h0])
theorem Same_16 (a b : List Vec) (ha : a.length ≤ 1000000000) (t t' : Tok) : VPure Try.prog 43 [.sl (a.map Vec.a) t, .sl (b.map Vec.a) t'] (.bool (a == b)) := by
  refine VPure.of v_liveryref16_Same_ok (Nat.le_of_ble_eq_true rfl) (fun Z st => ?_)
  simp only [v_liveryref16_Same, ↓vD, vU, VE.ev, VE.evs, retvs, tupOf, grab, vfill, vbsl, eqCells, eqCell, veqs, veqs1, vmnx, AV.isCell, AV.isUndef, Nat.reduceEqDiff, Nat.reduceAdd, Nat.reduceSub, Nat.reduceLeDiff, Nat.reduceLT, reduceIte, reduceCtorEq, Nat.reduceBEq, k_app, k_slc1]
  (repeat' (first | (simp (config := { maxDischargeDepth := 16 }) only [*, vX, Int.reduceLE, Int.reduceLT, Int.reduceGE, Int.reduceGT, Int.reduceBEq, Int.reduceBNe, Int.reduceAdd, Int.reduceSub, Int.reduceMul, Int.reduceNeg, ↓vD, vU, VE.ev, VE.evs, retvs, tupOf, grab, vfill, vbsl, eqCells, eqCell, veqs, veqs1, vmnx, AV.isCell, AV.isUndef, Nat.reduceEqDiff, Nat.reduceAdd, Nat.reduceSub, Nat.reduceLeDiff, Nat.reduceLT, reduceIte, reduceCtorEq, Nat.reduceBEq]) | (simp (disch := first | assumption | omega | exact Seg.len _ | exact Vec.len _ | exact Leg.len _ | exact num_len _ | exact rowA_len _ | exact rowA_len | exact rowT_len _ | exact rowT_len | exact Seg.len | exact Vec.len | exact Leg.len | exact num_len | exact AV.slen _ _ | rfl) only [vP]) | (with_reducible (first | refine gsnd (fun _ => ?_) (fun _ => ?_) | refine csnd (fun _ => ?_) (fun _ => ?_) | refine gsd (fun _ => ?_) (fun _ => ?_) | refine csd (fun _ => ?_) (fun _ => ?_) | refine gsn (fun _ => ?_) (fun _ => ?_) | refine csn (fun _ => ?_) (fun _ => ?_))) | (with_reducible refine gs (fun _ => ?_) (fun _ => ?_)) | (with_reducible refine cs_ (fun _ => ?_) (fun _ => ?_)) | (with_reducible refine objQ_i (fun _ _ => ?_); (repeat (with_reducible refine imp_i (fun _ => ?_)))) | ((try with_reducible refine appK_a ?_); first | (with_reducible refine appD_F (by refine ⟨?_, ?_, ?_, ?_⟩ <;> (first | assumption | omega | exact St.has_add (by assumption) | (simp only [ins_has]; exact St.has_add (by assumption)) | (simp only [ins_has, fresh_ins, kill_ins, add_ins] at *; exact St.has_add (by assumption)) | (simp only [*, ins_has, has_full, St.has_add]; done) | (simp [-List.map_take, -List.map_drop, or_imp, forall_and, Seg.a, Vec.a, Leg.a, num, okEl, cells_agg, cells_int, cells_sl, cells_bool, AV.isCell]; done) | (simp; omega))) (fun _ _ => ?_)) | (with_reducible refine appD_V (by refine ⟨?_, ?_, ?_, ?_, ?_⟩ <;> (first | assumption | omega | exact St.has_add (by assumption) | (simp only [ins_has]; exact St.has_add (by assumption)) | (simp only [ins_has, fresh_ins, kill_ins, add_ins] at *; exact St.has_add (by assumption)) | (simp only [*, ins_has, has_full, St.has_add]; done) | (simp [-List.map_take, -List.map_drop, or_imp, forall_and, Seg.a, Vec.a, Leg.a, num, okEl, cells_agg, cells_int, cells_sl, cells_bool, AV.isCell]; done) | (simp; omega))) (fun _ _ => ?_))) | (with_reducible refine freshQ_i (fun _ _ => ?_)) | (with_reducible refine nilQ_i (fun _ _ => ?_))))
  · rename_i h
    have hne : a ≠ b := fun e => by subst e; simp at h
    simp [hne]
  · rename_i h
    have hl : a.length = b.length := by first | omega | (simp at h; omega)
    clear h
    refine loopf_of (len := a.length) (by simp only [asgL, dsts, List.cons_append, List.nil_append, List.append_nil]; rfl) (by simp only [noR, Bool.and_true, Bool.and_false]; rfl) (by omega) (fun k fr s => s = st ∧ fr.t 5 = .int .i64 k ∧ a.take k = b.take k) ?_ ?_ ?_
    · simp [↓vD, vU, VE.ev, VE.evs, retvs, tupOf, grab, vfill, vbsl, eqCells, eqCell, veqs, veqs1, vmnx, AV.isCell, AV.isUndef, Nat.reduceEqDiff, Nat.reduceAdd, Nat.reduceSub, Nat.reduceLeDiff, Nat.reduceLT, reduceIte, reduceCtorEq, Nat.reduceBEq, k_app, k_slc1]
    · rintro k fr s hk hw hfr hd ⟨rfl, h13, hp⟩
      have hk' : k < b.length := by omega
      (repeat' (first | (simp (config := { maxDischargeDepth := 16 }) only [*, Vec.a, vX, Int.reduceLE, Int.reduceLT, Int.reduceGE, Int.reduceGT, Int.reduceBEq, Int.reduceBNe, Int.reduceAdd, Int.reduceSub, Int.reduceMul, Int.reduceNeg, ↓vD, vU, VE.ev, VE.evs, retvs, tupOf, grab, vfill, vbsl, eqCells, eqCell, veqs, veqs1, vmnx, AV.isCell, AV.isUndef, Nat.reduceEqDiff, Nat.reduceAdd, Nat.reduceSub, Nat.reduceLeDiff, Nat.reduceLT, reduceIte, reduceCtorEq, Nat.reduceBEq]) | (simp (disch := first | assumption | omega | exact Seg.len _ | exact Vec.len _ | exact Leg.len _ | exact num_len _ | exact rowA_len _ | exact rowA_len | exact rowT_len _ | exact rowT_len | exact Seg.len | exact Vec.len | exact Leg.len | exact num_len | exact AV.slen _ _ | rfl) only [Vec.a, vP]) | (with_reducible (first | refine gsnd (fun _ => ?_) (fun _ => ?_) | refine csnd (fun _ => ?_) (fun _ => ?_) | refine gsd (fun _ => ?_) (fun _ => ?_) | refine csd (fun _ => ?_) (fun _ => ?_) | refine gsn (fun _ => ?_) (fun _ => ?_) | refine csn (fun _ => ?_) (fun _ => ?_))) | (with_reducible refine gs (fun _ => ?_) (fun _ => ?_)) | (with_reducible refine cs_ (fun _ => ?_) (fun _ => ?_)) | (with_reducible refine objQ_i (fun _ _ => ?_); (repeat (with_reducible refine imp_i (fun _ => ?_)))) | ((try with_reducible refine appK_a ?_); first | (with_reducible refine appD_F (by refine ⟨?_, ?_, ?_, ?_⟩ <;> (first | assumption | omega | exact St.has_add (by assumption) | (simp only [ins_has]; exact St.has_add (by assumption)) | (simp only [ins_has, fresh_ins, kill_ins, add_ins] at *; exact St.has_add (by assumption)) | (simp only [*, ins_has, has_full, St.has_add]; done) | (simp [-List.map_take, -List.map_drop, or_imp, forall_and, Seg.a, Vec.a, Leg.a, num, okEl, cells_agg, cells_int, cells_sl, cells_bool, AV.isCell]; done) | (simp; omega))) (fun _ _ => ?_)) | (with_reducible refine appD_V (by refine ⟨?_, ?_, ?_, ?_, ?_⟩ <;> (first | assumption | omega | exact St.has_add (by assumption) | (simp only [ins_has]; exact St.has_add (by assumption)) | (simp only [ins_has, fresh_ins, kill_ins, add_ins] at *; exact St.has_add (by assumption)) | (simp only [*, ins_has, has_full, St.has_add]; done) | (simp [-List.map_take, -List.map_drop, or_imp, forall_and, Seg.a, Vec.a, Leg.a, num, okEl, cells_agg, cells_int, cells_sl, cells_bool, AV.isCell]; done) | (simp; omega))) (fun _ _ => ?_))) | (with_reducible refine freshQ_i (fun _ _ => ?_)) | (with_reducible refine nilQ_i (fun _ _ => ?_))))
      · rename_i hc
        have hne : a ≠ b := fun e => by subst e; simp at hc
        simp [hne]
      · rename_i hc
        have he : a[k] = b[k] := by
          have := vec_beq a[k] b[k]
          try simp only [Bool.not_eq_false'] at hc
          rw [hc] at this
          exact eq_of_beq this
        rw [List.take_add_one, List.take_add_one, hp, List.getElem?_eq_getElem hk, List.getElem?_eq_getElem hk', he]
    · rintro fr s hfr hd ⟨rfl, h13, hp⟩
      (repeat' (first | (simp (config := { maxDischargeDepth := 16 }) only [*, vX, Int.reduceLE, Int.reduceLT, Int.reduceGE, Int.reduceGT, Int.reduceBEq, Int.reduceBNe, Int.reduceAdd, Int.reduceSub, Int.reduceMul, Int.reduceNeg, ↓vD, vU, VE.ev, VE.evs, retvs, tupOf, grab, vfill, vbsl, eqCells, eqCell, veqs, veqs1, vmnx, AV.isCell, AV.isUndef, Nat.reduceEqDiff, Nat.reduceAdd, Nat.reduceSub, Nat.reduceLeDiff, Nat.reduceLT, reduceIte, reduceCtorEq, Nat.reduceBEq]) | (simp (disch := first | assumption | omega | exact Seg.len _ | exact Vec.len _ | exact Leg.len _ | exact num_len _ | exact rowA_len _ | exact rowA_len | exact rowT_len _ | exact rowT_len | exact Seg.len | exact Vec.len | exact Leg.len | exact num_len | exact AV.slen _ _ | rfl) only [vP]) | (with_reducible (first | refine gsnd (fun _ => ?_) (fun _ => ?_) | refine csnd (fun _ => ?_) (fun _ => ?_) | refine gsd (fun _ => ?_) (fun _ => ?_) | refine csd (fun _ => ?_) (fun _ => ?_) | refine gsn (fun _ => ?_) (fun _ => ?_) | refine csn (fun _ => ?_) (fun _ => ?_))) | (with_reducible refine gs (fun _ => ?_) (fun _ => ?_)) | (with_reducible refine cs_ (fun _ => ?_) (fun _ => ?_)) | (with_reducible refine objQ_i (fun _ _ => ?_); (repeat (with_reducible refine imp_i (fun _ => ?_)))) | ((try with_reducible refine appK_a ?_); first | (with_reducible refine appD_F (by refine ⟨?_, ?_, ?_, ?_⟩ <;> (first | assumption | omega | exact St.has_add (by assumption) | (simp only [ins_has]; exact St.has_add (by assumption)) | (simp only [ins_has, fresh_ins, kill_ins, add_ins] at *; exact St.has_add (by assumption)) | (simp only [*, ins_has, has_full, St.has_add]; done) | (simp [-List.map_take, -List.map_drop, or_imp, forall_and, Seg.a, Vec.a, Leg.a, num, okEl, cells_agg, cells_int, cells_sl, cells_bool, AV.isCell]; done) | (simp; omega))) (fun _ _ => ?_)) | (with_reducible refine appD_V (by refine ⟨?_, ?_, ?_, ?_, ?_⟩ <;> (first | assumption | omega | exact St.has_add (by assumption) | (simp only [ins_has]; exact St.has_add (by assumption)) | (simp only [ins_has, fresh_ins, kill_ins, add_ins] at *; exact St.has_add (by assumption)) | (simp only [*, ins_has, has_full, St.has_add]; done) | (simp [-List.map_take, -List.map_drop, or_imp, forall_and, Seg.a, Vec.a, Leg.a, num, okEl, cells_agg, cells_int, cells_sl, cells_bool, AV.isCell]; done) | (simp; omega))) (fun _ _ => ?_))) | (with_reducible refine freshQ_i (fun _ _ => ?_)) | (with_reducible refine nilQ_i (fun _ _ => ?_))))
      rw [List.take_length, hl, List.take_length] at hp
      simp [hp]
theorem v_16 (n : Int) : VPure Try.prog 44 [.int .i64 n] (.agg [.int .i64 n, .int .i64 n]) := by
  refine VPure.of v_liverylaw16_v_ok (Nat.le_of_ble_eq_true rfl) (fun Z st => ?_)
  simp only [v_liverylaw16_v, ↓vD, vU, VE.ev, VE.evs, retvs, tupOf, grab, vfill, vbsl, eqCells, eqCell, veqs, veqs1, vmnx, AV.isCell, AV.isUndef, Nat.reduceEqDiff, Nat.reduceAdd, Nat.reduceSub, Nat.reduceLeDiff, Nat.reduceLT, reduceIte, reduceCtorEq, Nat.reduceBEq, k_app, k_slc1]
  (repeat' (first | (simp (config := { maxDischargeDepth := 16 }) only [*, vX, Int.reduceLE, Int.reduceLT, Int.reduceGE, Int.reduceGT, Int.reduceBEq, Int.reduceBNe, Int.reduceAdd, Int.reduceSub, Int.reduceMul, Int.reduceNeg, ↓vD, vU, VE.ev, VE.evs, retvs, tupOf, grab, vfill, vbsl, eqCells, eqCell, veqs, veqs1, vmnx, AV.isCell, AV.isUndef, Nat.reduceEqDiff, Nat.reduceAdd, Nat.reduceSub, Nat.reduceLeDiff, Nat.reduceLT, reduceIte, reduceCtorEq, Nat.reduceBEq]) | (simp (disch := first | assumption | omega | exact Seg.len _ | exact Vec.len _ | exact Leg.len _ | exact num_len _ | exact rowA_len _ | exact rowA_len | exact rowT_len _ | exact rowT_len | exact Seg.len | exact Vec.len | exact Leg.len | exact num_len | exact AV.slen _ _ | rfl) only [vP]) | (with_reducible (first | refine gsnd (fun _ => ?_) (fun _ => ?_) | refine csnd (fun _ => ?_) (fun _ => ?_) | refine gsd (fun _ => ?_) (fun _ => ?_) | refine csd (fun _ => ?_) (fun _ => ?_) | refine gsn (fun _ => ?_) (fun _ => ?_) | refine csn (fun _ => ?_) (fun _ => ?_))) | (with_reducible refine gs (fun _ => ?_) (fun _ => ?_)) | (with_reducible refine cs_ (fun _ => ?_) (fun _ => ?_)) | (with_reducible refine objQ_i (fun _ _ => ?_); (repeat (with_reducible refine imp_i (fun _ => ?_)))) | ((try with_reducible refine appK_a ?_); first | (with_reducible refine appD_F (by refine ⟨?_, ?_, ?_, ?_⟩ <;> (first | assumption | omega | exact St.has_add (by assumption) | (simp only [ins_has]; exact St.has_add (by assumption)) | (simp only [ins_has, fresh_ins, kill_ins, add_ins] at *; exact St.has_add (by assumption)) | (simp only [*, ins_has, has_full, St.has_add]; done) | (simp [-List.map_take, -List.map_drop, or_imp, forall_and, Seg.a, Vec.a, Leg.a, num, okEl, cells_agg, cells_int, cells_sl, cells_bool, AV.isCell]; done) | (simp; omega))) (fun _ _ => ?_)) | (with_reducible refine appD_V (by refine ⟨?_, ?_, ?_, ?_, ?_⟩ <;> (first | assumption | omega | exact St.has_add (by assumption) | (simp only [ins_has]; exact St.has_add (by assumption)) | (simp only [ins_has, fresh_ins, kill_ins, add_ins] at *; exact St.has_add (by assumption)) | (simp only [*, ins_has, has_full, St.has_add]; done) | (simp [-List.map_take, -List.map_drop, or_imp, forall_and, Seg.a, Vec.a, Leg.a, num, okEl, cells_agg, cells_int, cells_sl, cells_bool, AV.isCell]; done) | (simp; omega))) (fun _ _ => ?_))) | (with_reducible refine freshQ_i (fun _ _ => ?_)) | (with_reducible refine nilQ_i (fun _ _ => ?_))))
def greatF (f : List Seg) (w : Vec) (l : List Leg) : Bool := decide (60 < f.length) || decide (30 < l.length) || (decide (w.m < w.c) && decide (150 < wr (w.c - w.m)) && decide (wr (w.c - w.m) ≤ 4096))
theorem great_16 (f : List Seg) (hf : (f.length : Int) ≤ 9223372036854775807) (w : Vec) (l : List Leg) (hl : (l.length : Int) ≤ 9223372036854775807) (t t' : Tok) :
    VPure Try.prog 40 [.sl (f.map Seg.a) t, .agg [.int .i64 w.m, .int .i64 w.c], .sl (l.map Leg.a) t'] (.bool (greatF f w l)) := by
  refine VPure.of v_liverylaw16_great_ok (Nat.le_of_ble_eq_true rfl) (fun Z st => ?_)
  obtain ⟨d, hd⟩ : ∃ d, IntKind.i64.wrap (w.c - w.m) = d := ⟨_, rfl⟩
  have HG : Hid (greatF f w l = (decide (60 < f.length) || decide (30 < l.length) || (decide (w.m < w.c) && decide (150 < d) && decide (d ≤ 4096)))) := ⟨by unfold greatF wr; rw [hd]⟩
  rw [HG.out]
  simp only [v_liverylaw16_great, ↓vD, vU, VE.ev, VE.evs, retvs, tupOf, grab, vfill, vbsl, eqCells, eqCell, veqs, veqs1, vmnx, AV.isCell, AV.isUndef, Nat.reduceEqDiff, Nat.reduceAdd, Nat.reduceSub, Nat.reduceLeDiff, Nat.reduceLT, reduceIte, reduceCtorEq, Nat.reduceBEq, k_app, k_slc1]
  (repeat' (first | (simp (config := { maxDischargeDepth := 16 }) only [*, vX, Int.reduceLE, Int.reduceLT, Int.reduceGE, Int.reduceGT, Int.reduceBEq, Int.reduceBNe, Int.reduceAdd, Int.reduceSub, Int.reduceMul, Int.reduceNeg, ↓vD, vU, VE.ev, VE.evs, retvs, tupOf, grab, vfill, vbsl, eqCells, eqCell, veqs, veqs1, vmnx, AV.isCell, AV.isUndef, Nat.reduceEqDiff, Nat.reduceAdd, Nat.reduceSub, Nat.reduceLeDiff, Nat.reduceLT, reduceIte, reduceCtorEq, Nat.reduceBEq]) | (simp (disch := first | assumption | omega | exact Seg.len _ | exact Vec.len _ | exact Leg.len _ | exact num_len _ | exact rowA_len _ | exact rowA_len | exact rowT_len _ | exact rowT_len | exact Seg.len | exact Vec.len | exact Leg.len | exact num_len | exact AV.slen _ _ | rfl) only [vP]) | (with_reducible (first | refine gsnd (fun _ => ?_) (fun _ => ?_) | refine csnd (fun _ => ?_) (fun _ => ?_) | refine gsd (fun _ => ?_) (fun _ => ?_) | refine csd (fun _ => ?_) (fun _ => ?_) | refine gsn (fun _ => ?_) (fun _ => ?_) | refine csn (fun _ => ?_) (fun _ => ?_))) | (with_reducible refine gs (fun _ => ?_) (fun _ => ?_)) | (with_reducible refine cs_ (fun _ => ?_) (fun _ => ?_)) | (with_reducible refine objQ_i (fun _ _ => ?_); (repeat (with_reducible refine imp_i (fun _ => ?_)))) | ((try with_reducible refine appK_a ?_); first | (with_reducible refine appD_F (by refine ⟨?_, ?_, ?_, ?_⟩ <;> (first | assumption | omega | exact St.has_add (by assumption) | (simp only [ins_has]; exact St.has_add (by assumption)) | (simp only [ins_has, fresh_ins, kill_ins, add_ins] at *; exact St.has_add (by assumption)) | (simp only [*, ins_has, has_full, St.has_add]; done) | (simp [-List.map_take, -List.map_drop, or_imp, forall_and, Seg.a, Vec.a, Leg.a, num, okEl, cells_agg, cells_int, cells_sl, cells_bool, AV.isCell]; done) | (simp; omega))) (fun _ _ => ?_)) | (with_reducible refine appD_V (by refine ⟨?_, ?_, ?_, ?_, ?_⟩ <;> (first | assumption | omega | exact St.has_add (by assumption) | (simp only [ins_has]; exact St.has_add (by assumption)) | (simp only [ins_has, fresh_ins, kill_ins, add_ins] at *; exact St.has_add (by assumption)) | (simp only [*, ins_has, has_full, St.has_add]; done) | (simp [-List.map_take, -List.map_drop, or_imp, forall_and, Seg.a, Vec.a, Leg.a, num, okEl, cells_agg, cells_int, cells_sl, cells_bool, AV.isCell]; done) | (simp; omega))) (fun _ _ => ?_))) | (with_reducible refine freshQ_i (fun _ _ => ?_)) | (with_reducible refine nilQ_i (fun _ _ => ?_))))
  (all_goals (first | rfl | (simp_all; done) | (simp_all <;> omega)))
def fH : List Seg := [⟨0, ⟨5, 5⟩⟩, ⟨10, ⟨2, 2⟩⟩, ⟨12, ⟨5, 5⟩⟩, ⟨20, ⟨0, 0⟩⟩]
def lH : List Leg := [⟨4, ⟨3, 3⟩⟩]
def mH : List Leg := [⟨4, ⟨3, 3⟩⟩, ⟨2, ⟨1, 1⟩⟩]
theorem b1H : beginsF fH ⟨0, 30⟩ lH = ([⟨0, 7⟩, ⟨12, 17⟩], 0) := by decide
theorem b2H : beginsF fH ⟨7, 30⟩ lH = ([⟨12, 17⟩], 0) := by decide
theorem b3H : beginsF fH ⟨0, 30⟩ mH = ([⟨0, 7⟩, ⟨12, 15⟩], 0) := by decide
theorem b4H : beginsF fH ⟨7, 15⟩ lH = ([], 0) := by decide
theorem b5H : beginsF fH ⟨7, 7⟩ lH = ([], 2) := by decide
theorem l1H : lengthF mH = (6, 0) := by decide
theorem head_16 : VPure Try.prog 41 [] (.bool true) := by
  have a1 := Begins_c fH (by simp [fH]) ⟨0, 30⟩ (by simp) (by simp) lH (by simp [lH]) .full .full
  have a2 := Earliest_c fH (by simp [fH]) ⟨0, 30⟩ (by simp) (by simp) lH (by simp [lH]) .full .full
  have a3 := Latest_c fH (by simp [fH]) ⟨0, 30⟩ (by simp) (by simp) lH (by simp [lH]) .full .full
  have a4 := Earliest_c fH (by simp [fH]) ⟨7, 30⟩ (by simp) (by simp) lH (by simp [lH]) .full .full
  have a5 := Begins_c fH (by simp [fH]) ⟨0, 30⟩ (by simp) (by simp) mH (by simp [mH]) .full .full
  have a6 := Length_v mH (by simp [mH]) .full
  have a7 := Earliest_c fH (by simp [fH]) ⟨7, 15⟩ (by simp) (by simp) lH (by simp [lH]) .full .full
  have a8 := Earliest_c fH (by simp [fH]) ⟨7, 7⟩ (by simp) (by simp) lH (by simp [lH]) .full .full
  have s1 := Same_16 [⟨0, 7⟩, ⟨12, 17⟩] [⟨0, 7⟩, ⟨12, 17⟩] (by simp) .no .full
  have s2 := Same_16 [⟨0, 7⟩, ⟨12, 15⟩] [⟨0, 7⟩, ⟨12, 15⟩] (by simp) .no .full
  simp only [beq_self_eq_true] at s1 s2
  rw [b1H] at a1 a2 a3
  rw [b2H] at a4
  rw [b3H] at a5
  rw [l1H] at a6
  rw [b4H] at a7
  rw [b5H] at a8
  simp [askF] at a2 a3 a4 a7 a8
  simp only [fH, lH, mH, List.map_cons, List.map_nil, Seg.a, Leg.a, Vec.a, num] at a1 a2 a3 a4 a5 a6 a7 a8 s1 s2
  refine VPure.of v_liverylaw16_head_ok (Nat.le_of_ble_eq_true rfl) (fun Z st => ?_)
  simp only [v_liverylaw16_head, ↓vD, vU, VE.ev, VE.evs, retvs, tupOf, grab, vfill, vbsl, eqCells, eqCell, veqs, veqs1, vmnx, AV.isCell, AV.isUndef, Nat.reduceEqDiff, Nat.reduceAdd, Nat.reduceSub, Nat.reduceLeDiff, Nat.reduceLT, reduceIte, reduceCtorEq, Nat.reduceBEq, k_app, k_slc1]
  (repeat' (first | (simp (config := { maxDischargeDepth := 16 }) only [*, vX, Int.reduceLE, Int.reduceLT, Int.reduceGE, Int.reduceGT, Int.reduceBEq, Int.reduceBNe, Int.reduceAdd, Int.reduceSub, Int.reduceMul, Int.reduceNeg, ↓vD, vU, VE.ev, VE.evs, retvs, tupOf, grab, vfill, vbsl, eqCells, eqCell, veqs, veqs1, vmnx, AV.isCell, AV.isUndef, Nat.reduceEqDiff, Nat.reduceAdd, Nat.reduceSub, Nat.reduceLeDiff, Nat.reduceLT, reduceIte, reduceCtorEq, Nat.reduceBEq]) | (simp (disch := first | assumption | omega | exact Seg.len _ | exact Vec.len _ | exact Leg.len _ | exact num_len _ | exact rowA_len _ | exact rowA_len | exact rowT_len _ | exact rowT_len | exact Seg.len | exact Vec.len | exact Leg.len | exact num_len | exact AV.slen _ _ | rfl) only [vP]) | (with_reducible (first | refine gsnd (fun _ => ?_) (fun _ => ?_) | refine csnd (fun _ => ?_) (fun _ => ?_) | refine gsd (fun _ => ?_) (fun _ => ?_) | refine csd (fun _ => ?_) (fun _ => ?_) | refine gsn (fun _ => ?_) (fun _ => ?_) | refine csn (fun _ => ?_) (fun _ => ?_))) | (with_reducible refine gs (fun _ => ?_) (fun _ => ?_)) | (with_reducible refine cs_ (fun _ => ?_) (fun _ => ?_)) | (with_reducible refine objQ_i (fun _ _ => ?_); (repeat (with_reducible refine imp_i (fun _ => ?_)))) | ((try with_reducible refine appK_a ?_); first | (with_reducible refine appD_F (by refine ⟨?_, ?_, ?_, ?_⟩ <;> (first | assumption | omega | exact St.has_add (by assumption) | (simp only [ins_has]; exact St.has_add (by assumption)) | (simp only [ins_has, fresh_ins, kill_ins, add_ins] at *; exact St.has_add (by assumption)) | (simp only [*, ins_has, has_full, St.has_add]; done) | (simp [-List.map_take, -List.map_drop, or_imp, forall_and, Seg.a, Vec.a, Leg.a, num, okEl, cells_agg, cells_int, cells_sl, cells_bool, AV.isCell]; done) | (simp; omega))) (fun _ _ => ?_)) | (with_reducible refine appD_V (by refine ⟨?_, ?_, ?_, ?_, ?_⟩ <;> (first | assumption | omega | exact St.has_add (by assumption) | (simp only [ins_has]; exact St.has_add (by assumption)) | (simp only [ins_has, fresh_ins, kill_ins, add_ins] at *; exact St.has_add (by assumption)) | (simp only [*, ins_has, has_full, St.has_add]; done) | (simp [-List.map_take, -List.map_drop, or_imp, forall_and, Seg.a, Vec.a, Leg.a, num, okEl, cells_agg, cells_int, cells_sl, cells_bool, AV.isCell]; done) | (simp; omega))) (fun _ _ => ?_))) | (with_reducible refine freshQ_i (fun _ _ => ?_)) | (with_reducible refine nilQ_i (fun _ _ => ?_)) | (with_reducible first | refine callH_use (v_16 _) ?_ | refine pureQ_use (v_16 _) ?_) | (with_reducible first | refine callH_use (a1) ?_ | refine pureQ_use (a1) ?_) | (with_reducible first | refine callH_use (a2) ?_ | refine pureQ_use (a2) ?_) | (with_reducible first | refine callH_use (a3) ?_ | refine pureQ_use (a3) ?_) | (with_reducible first | refine callH_use (a4) ?_ | refine pureQ_use (a4) ?_) | (with_reducible first | refine callH_use (a5) ?_ | refine pureQ_use (a5) ?_) | (with_reducible first | refine callH_use (a6) ?_ | refine pureQ_use (a6) ?_) | (with_reducible first | refine callH_use (a7) ?_ | refine pureQ_use (a7) ?_) | (with_reducible first | refine callH_use (a8) ?_ | refine pureQ_use (a8) ?_) | (with_reducible first | refine callH_use (s1) ?_ | refine pureQ_use (s1) ?_) | (with_reducible first | refine callH_use (s2) ?_ | refine pureQ_use (s2) ?_)))
end Go.Proofs.Ytddbnncimggogaa.V
end
section
set_option linter.unusedSimpArgs false
set_option linter.unusedVariables false
/- What is handed in, as V's values: structs and arrays of any parts. -/
namespace Go.Proofs.Ytddbnncimggogaa.V
open Go Go.ChangeShapes Go.WideShapes Go.ChangeAt Go.RowKit Go.Deep
set_option maxRecDepth 100000
/-- Cells of a type, wherever they lie. -/
def OpC (t : TypeId) (sz : Nat) (R : List AV → Prop) : Prop :=
  ∀ {H : Type} {enc : TypeId × Value → H} {w : World} {base : Nat} {spare : Nat → Bool} {held : Bool} {fuel : Nat} {cs : List Value} {x : DataW H × List MemPlace}, DataW.trod enc Try.prog w base spare held fuel t cs = some x →
    ∃ l : List AV, RepL (imW w) l cs ∧ l.length = sz ∧ l.all AV.isCell = true ∧ R l
theorem OpC.mono {t : TypeId} {sz : Nat} {R R' : List AV → Prop} (h : OpC t sz R) (hr : ∀ l, R l → R' l) : OpC t sz R' := fun hx => by
  obtain ⟨l, h1, h2, h3, h4⟩ := h hx
  exact ⟨l, h1, h2, h3, hr l h4⟩
theorem opn_of {α : Type} {t : TypeId} {sz : Nat} {f : α → AV} {wf : α → Prop} (h : OpC t sz (fun l => ∃ v, l = (f v).cells ∧ wf v)) : Opn t sz f wf := fun hx => by
  obtain ⟨l, h1, h2, h3, v, rfl, h4⟩ := h hx
  exact ⟨v, h1, by simp [okEl, h2, h3], h4⟩
theorem opc_of {α : Type} {t : TypeId} {sz : Nat} {f : α → AV} {wf : α → Prop} (h : Opn t sz f wf) : OpC t sz (fun l => ∃ v, l = (f v).cells ∧ wf v) := fun hx => by
  obtain ⟨v, h1, h2, h3⟩ := h hx
  simp only [okEl, Bool.and_eq_true, beq_iff_eq] at h2
  exact ⟨_, h1, h2.1, h2.2, v, rfl, h3⟩
theorem opc_int {t : TypeId} {k : IntKind} (ht : Try.prog.underlying t = some (.int k)) : OpC t 1 (fun l => ∃ n, l = [.int k n] ∧ (Lit.int k n).wf = true) := by
  intro H enc w base spare held fuel cs x h
  obtain ⟨a, rfl, _, wa⟩ := DataW.trod_int ht h
  exact ⟨[.int k a], by simp [RepL, Rep], rfl, rfl, a, rfl, wa⟩
theorem opc_sl {α : Type} [Inhabited α] {t e : TypeId} {sz : Nat} {f : α → AV} {wf : α → Prop} (ht : Try.prog.underlying t = some (.slice e)) (hsz : Try.prog.cellsOf e = sz) (hp : 0 < sz) (hO : Opn e sz f wf) :
    OpC t 1 (fun l => ∃ xs : List α, l = [.sl (xs.map f) .no] ∧ (∀ x ∈ xs, wf x) ∧ (xs.length : Int) ≤ 9223372036854775807) :=
  OpC.mono (opc_of (opn_sl ht hsz hp hO)) (by rintro l ⟨xs, rfl, h⟩; exact ⟨xs, rfl, h⟩)
def tot : List (Nat × (List AV → Prop)) → Nat
  | [] => 0
  | (n, _) :: r => n + tot r
def AllC : List (Nat × (List AV → Prop)) → List AV → Prop
  | [], l => l = []
  | (_, R) :: r, l => ∃ a b, l = a ++ b ∧ R a ∧ AllC r b
def Parts (w : World) (cs : List Value) : Nat → List (Nat × (List AV → Prop)) → Prop
  | _, [] => True
  | o, (n, R) :: r => (∃ a : List AV, RepL (imW w) a ((cs.drop o).take n) ∧ a.length = n ∧ a.all AV.isCell = true ∧ R a) ∧ Parts w cs (o + n) r
theorem glue {w : World} {cs : List Value} : ∀ {ps : List (Nat × (List AV → Prop))} {o : Nat}, Parts w cs o ps → ∃ l : List AV, RepL (imW w) l ((cs.drop o).take (tot ps)) ∧ l.length = tot ps ∧ l.all AV.isCell = true ∧ AllC ps l
  | [], o, _ => ⟨[], by simp [tot, RepL], rfl, rfl, rfl⟩
  | (n, R) :: r, o, ⟨⟨a, h1, h2, h3, h4⟩, h⟩ => by
    obtain ⟨b, k1, k2, k3, k4⟩ := glue h
    refine ⟨a ++ b, ?_, by simp [h2, k2, tot], by simp only [List.all_append, h3, k3, Bool.and_self], a, b, rfl, h4, k4⟩
    simp only [tot]
    rw [List.take_add, List.drop_drop]
    exact h1.append k1
/-- The fields of a struct, one behind the other. -/
def SeqC : List Field → Nat → List (Nat × (List AV → Prop)) → Prop
  | [], _, [] => True
  | f :: fs, o, (n, R) :: r => (f.offset = o ∧ Try.prog.cellsOf f.type = n ∧ OpC f.type n R) ∧ SeqC fs (o + n) r
  | _, _, _ => False
theorem opc_struct {t : TypeId} {fs : Array Field} {ps : List (Nat × (List AV → Prop))} (ht : Try.prog.underlying t = some (.struct fs)) (hsz : Try.prog.cellsOf t = tot ps) (hs : SeqC fs.toList 0 ps) : OpC t (tot ps) (AllC ps) := by
  intro H enc w base spare held fuel cs x h
  obtain ⟨xs, n, _, rfl, hl, hlen, hf⟩ := DataW.trod_struct ht h
  have key : ∀ (fl : List Field) (o : Nat) (ps : List (Nat × (List AV → Prop))), (∀ f ∈ fl, ∃ y, DataW.trod enc Try.prog w base spare held n f.type ((cs.drop f.offset).take (Try.prog.cellsOf f.type)) = some y) → SeqC fl o ps → Parts w cs o ps := by
    intro fl
    induction fl with
    | nil =>
      intro o ps _ hs
      cases ps with
      | nil => trivial
      | cons p r => exact hs.elim
    | cons f fl ih =>
      intro o ps hy hs
      match ps, hs with
      | (m, R) :: r, ⟨⟨e1, e2, h3⟩, h4⟩ =>
        obtain ⟨y, hy1⟩ := hy f (by simp)
        rw [e1, e2] at hy1
        exact ⟨h3 hy1, ih _ _ (fun g hg => hy g (by simp [hg])) h4⟩
  have hp := key fs.toList 0 ps (fun f hfm => by
    obtain ⟨i, hi, rfl⟩ := List.getElem_of_mem hfm
    have hi2 : i < fs.size := by simpa using hi
    have := hf i fs[i] (by simp [hi2])
    rw [List.getElem?_eq_getElem (by omega)] at this
    exact ⟨_, by simpa using this⟩) hs
  obtain ⟨l, k1, k2, k3, k4⟩ := glue hp
  refine ⟨l, ?_, k2, k3, k4⟩
  rw [List.drop_zero, List.take_of_length_le (by omega)] at k1
  exact k1
theorem tot_rep (n m : Nat) (R : List AV → Prop) : tot (List.replicate m (n, R)) = m * n := by
  induction m with
  | zero => simp [tot]
  | succ m ih => rw [List.replicate_succ, tot, ih, Nat.add_mul]; omega
theorem opc_array {t e : TypeId} {m n : Nat} {R : List AV → Prop} (ht : Try.prog.underlying t = some (.array m e)) (hsz : Try.prog.cellsOf t = m * n) (he : Try.prog.cellsOf e = n) (hR : OpC e n R) : OpC t (m * n) (AllC (List.replicate m (n, R))) := by
  intro H enc w base spare held fuel cs x h
  obtain ⟨xs, q, _, rfl, hl, hlen, hf⟩ := DataW.trod_array ht h
  have key : ∀ (k i : Nat), i + k = m → Parts w cs (i * n) (List.replicate k (n, R)) := by
    intro k
    induction k with
    | zero => intro _ _; trivial
    | succ k ih =>
      intro i hi
      rw [List.replicate_succ]
      have h1 := hf i (by omega)
      rw [List.getElem?_eq_getElem (by omega), he] at h1
      refine ⟨hR h1, ?_⟩
      have := ih (i + 1) (by omega)
      rwa [Nat.add_mul, Nat.one_mul] at this
  have hp := key m 0 (by omega)
  rw [Nat.zero_mul] at hp
  obtain ⟨l, k1, k2, k3, k4⟩ := glue hp
  rw [tot_rep] at k1 k2
  refine ⟨l, ?_, k2, k3, k4⟩
  rw [List.drop_zero, List.take_of_length_le (by omega)] at k1
  exact k1
/-- A struct that is handed in. -/
theorem open_agg {α : Type} {t : TypeId} {sz : Nat} {g : α → List AV} {wf : α → Prop} {fs : Array Field} (ht : Try.prog.underlying t = some (.struct fs)) (hO : Opn t sz (fun x => .agg (g x)) wf)
    {H : Type} {enc : TypeId × Value → H} {w : World} {base base' : Nat} {spare : Nat → Bool} {held : Bool} {v : Value} {d : DataW H} {ps : List MemPlace} {r : Reach} (hval : Value.okWide Try.prog w r base' t v) (h : DataW.Trod enc Try.prog w base spare held t v d ps) :
    ∃ x : α, Rep (imW w) (.agg (g x)) v ∧ wf x := by
  simp only [Value.okWide, ht] at hval
  obtain ⟨cs, rfl, hsz, _⟩ := hval
  obtain ⟨fuel, hf⟩ := h
  obtain ⟨x, h1, _, h3⟩ := hO hf
  exact ⟨x, by simp only [Rep]; exact ⟨cs, rfl, h1⟩, h3⟩
/-! The structs of times and resources. -/
def wfLeg (x : Leg) : Prop := I64 x.d ∧ wfVec x.v
theorem opc_i64 : OpC 2 1 (fun l => ∃ n, l = [.int .i64 n] ∧ I64 n) := OpC.mono (opc_int (by kernel_rfl)) (by rintro l ⟨n, rfl, h⟩; exact ⟨n, rfl, i64_of h⟩)
theorem opn_win : Opn 60 2 Vec.a wfVec :=
  opn_of (OpC.mono (opc_struct (ps := [(1, _), (1, _)]) Try.underlying60 (by kernel_rfl) ⟨⟨rfl, by kernel_rfl, opc_i64⟩, ⟨rfl, by kernel_rfl, opc_i64⟩, trivial⟩) (by
    rintro l ⟨_, _, rfl, ⟨a, rfl, ha⟩, _, _, rfl, ⟨b, rfl, hb⟩, rfl⟩
    exact ⟨⟨a, b⟩, rfl, ha, hb⟩))
theorem opn_leg : Opn 70 3 Leg.a wfLeg :=
  opn_of (OpC.mono (opc_struct (ps := [(1, _), (2, _)]) Try.underlying70 (by kernel_rfl) ⟨⟨rfl, by kernel_rfl, opc_i64⟩, ⟨rfl, by kernel_rfl, opc_of opn_vec⟩, trivial⟩) (by
    rintro l ⟨_, _, rfl, ⟨a, rfl, ha⟩, _, _, rfl, ⟨b, rfl, hb⟩, rfl⟩
    exact ⟨⟨a, b⟩, rfl, ha, hb⟩))
end Go.Proofs.Ytddbnncimggogaa.V
end
section
set_option linter.unusedSimpArgs false
set_option linter.unusedVariables false
/- More loops. -/
namespace Go.Proofs.Ytddbnncimggogaa.V
open Go Go.RowKit
variable {P : Program} {Z : Im}
/-- A counted loop that leaves the state as it was. -/
theorem loopp_of {b : VCode} {ro : Option Nat} {Q : Exit → Fr → St → Prop} {fr0 : Fr} {st0 : St} {l : List Nat} {n : Bool} (hl : asgL b = l) (hd : noR b = n) {len : Nat} (hn : len ≤ 1000000000000) (I : Nat → Fr → Prop) (h0 : I 0 fr0)
    (hs : ∀ k fr, k < len → IntKind.i64.wrap ((k : Int) + 1) = (k : Int) + 1 → (∀ i, l.contains i = false → fr.t i = fr0.t i) → (n = true → fr.d = fr0.d) → I k fr → vwp P b Z ro (thenQ (fun fr' st' => st0.le st' ∧ I (k + 1) fr') Q) fr st0)
    (he : ∀ fr, (∀ i, l.contains i = false → fr.t i = fr0.t i) → (n = true → fr.d = fr0.d) → I len fr → vwp P b Z ro (thenQ (fun _ _ => False) Q) fr st0) : vwp P (.loop b) Z ro Q fr0 st0 := by
  refine loopf_of hl hd hn (fun k fr s => s = st0 ∧ I k fr) ⟨rfl, h0⟩ ?_ ?_
  · rintro k fr s hk hw hf hdd ⟨rfl, hI⟩
    refine vwp_mono (fun e fr2 st2 q => ?_) (hs k fr hk hw hf hdd hI)
    cases e <;> simp only [thenQ] at q ⊢
    · exact ⟨_, q.1, rfl, q.2⟩
    all_goals exact q
  · rintro fr s hf hdd ⟨rfl, hI⟩
    exact he fr hf hdd hI
theorem toNat_succ (k : Nat) : ((k : Int) + 1).toNat = k + 1 := by omega
end Go.Proofs.Ytddbnncimggogaa.V
end
section
set_option linter.unusedSimpArgs false
set_option linter.unusedVariables false
/- SlotCut, walked. -/
namespace Go.Proofs.Ytddbnncimggogaa.V
open Go Go.Proofs
set_option maxRecDepth 100000
set_option maxHeartbeats 4000000
theorem sumW_bd {M : Int} : ∀ {l : List Vec}, (∀ x ∈ l, 0 ≤ x.c - x.m ∧ x.c - x.m ≤ M) → 0 ≤ sumW l ∧ sumW l ≤ M * l.length
  | [], _ => by simp [sumW]
  | w :: r, h => by
    have h1 := sumW_bd (M := M) (l := r) (fun x hx => h x (by simp [hx]))
    have h2 := h w (by simp)
    simp only [sumW, List.length_cons]
    have : M * ((r.length + 1 : Nat) : Int) = M * r.length + M := by rw [Int.natCast_add, Int.mul_add]; simp
    omega
theorem sumW_take {l : List Vec} {k : Nat} (h : k < l.length) : sumW (l.take (k + 1)) = sumW (l.take k) + l[k].c - l[k].m := by
  rw [List.take_add_one, List.getElem?_eq_getElem h, sumW_app]
  simp only [Option.toList, sumW]; omega
theorem begins_bd (f : List Seg) (w : Vec) (l : List Leg) : ∀ x ∈ (beginsF f w l).1, (0 ≤ x.c - x.m ∧ x.c - x.m ≤ 5000) ∧ -2000000000000 ≤ x.m ∧ x.c ≤ 2000000000000 := by
  by_cases h : (checkF f w l).2 = 0
  · have hO := check_ok.1 h
    have hr := (begins_is hO).1
    have h1 := hO.win
    have h2 := hO.span
    have h3 := hO.from_
    have h4 := hO.to_
    simp only [farF, Bool.or_eq_false_iff, decide_eq_false_iff_not] at h3 h4
    have key : ∀ (l : List Vec) (lo : Int), w.m ≤ lo → RowsG lo (w.c + 1) l → ∀ x ∈ l, w.m ≤ x.m ∧ x.m < x.c ∧ x.c ≤ w.c + 1 := by
      intro l
      induction l with
      | nil => intro _ _ _ x hx; cases hx
      | cons y r ih =>
        rintro lo hlo ⟨a, b, c, d⟩ x hx
        rcases List.mem_cons.1 hx with rfl | hx
        · omega
        · exact ih _ (by omega) d x hx
    intro x hx
    have := key _ _ (Int.le_refl _) hr x hx
    omega
  · have : (beginsF f w l).1 = [] := by unfold beginsF; rw [if_pos (.inl h)]
    rw [this]; simp
/-- A window, legs, two numbers of a byte. -/
structure RowX where
  w : Vec
  l : List Leg
  b0 : Int
  b1 : Int
  deriving Inhabited
def RowX.a (x : RowX) : AV := .agg [.int .i64 x.w.m, .int .i64 x.w.c, .sl (x.l.map Leg.a) .no, .int .u8 x.b0, .int .u8 x.b1]
def U8 (n : Int) : Prop := 0 ≤ n ∧ n ≤ 255
def wfRowX (x : RowX) : Prop := wfVec x.w ∧ ((∀ y ∈ x.l, wfLeg y) ∧ (x.l.length : Int) ≤ 9223372036854775807) ∧ U8 x.b0 ∧ U8 x.b1
theorem iaa0 (b o : Nat) : viaa 2 1 (.ptr b o) (.int .i64 0) = some (.ptr b o) := by simp [viaa, vfad]
theorem iaa1 (b o : Nat) : viaa 2 1 (.ptr b o) (.int .i64 1) = some (.ptr b (o + 1)) := by simp [viaa, vfad]
theorem slotCut_v (f : List Seg) (_ : ∀ x ∈ f, wfSeg x) (hf : (f.length : Int) ≤ 9223372036854775807) (x : RowX) (hx : wfRowX x) :
    VPure Try.prog 11 [.sl (f.map Seg.a) .no, x.a] (.bool true) := by
  obtain ⟨w, l, b0, b1⟩ := x
  obtain ⟨⟨⟨w1, w2⟩, w3, w4⟩, ⟨_, hl⟩, hb0, hb1⟩ := hx
  simp only [U8] at w1 w2 w3 w4 hl hb0 hb1 ⊢
  simp only [RowX.a]
  have hg := great_16 f hf w l hl .no .no
  refine VPure.of v_liverylaw16_SlotCut_ok (Nat.le_of_ble_eq_true rfl) (fun Z st => ?_)
  by_cases hgr : greatF f w l = true
  · rw [hgr] at hg
    clear hgr
    simp only [v_liverylaw16_SlotCut, ↓vD, vU, VE.ev, VE.evs, retvs, tupOf, grab, vfill, vbsl, eqCells, eqCell, veqs, veqs1, vmnx, AV.isCell, AV.isUndef, Nat.reduceEqDiff, Nat.reduceAdd, Nat.reduceSub, Nat.reduceLeDiff, Nat.reduceLT, reduceIte, reduceCtorEq, Nat.reduceBEq, k_app, k_slc1]
    (repeat' (first | (simp (config := { maxDischargeDepth := 16 }) only [*, vX, Int.reduceLE, Int.reduceLT, Int.reduceGE, Int.reduceGT, Int.reduceBEq, Int.reduceBNe, Int.reduceAdd, Int.reduceSub, Int.reduceMul, Int.reduceNeg, ↓vD, vU, VE.ev, VE.evs, retvs, tupOf, grab, vfill, vbsl, eqCells, eqCell, veqs, veqs1, vmnx, AV.isCell, AV.isUndef, Nat.reduceEqDiff, Nat.reduceAdd, Nat.reduceSub, Nat.reduceLeDiff, Nat.reduceLT, reduceIte, reduceCtorEq, Nat.reduceBEq]) | (simp (disch := first | assumption | omega | exact Seg.len _ | exact Vec.len _ | exact Leg.len _ | exact num_len _ | exact rowA_len _ | exact rowA_len | exact rowT_len _ | exact rowT_len | exact Seg.len | exact Vec.len | exact Leg.len | exact num_len | exact AV.slen _ _ | rfl) only [vP]) | (with_reducible (first | refine gsnd (fun _ => ?_) (fun _ => ?_) | refine csnd (fun _ => ?_) (fun _ => ?_) | refine gsd (fun _ => ?_) (fun _ => ?_) | refine csd (fun _ => ?_) (fun _ => ?_) | refine gsn (fun _ => ?_) (fun _ => ?_) | refine csn (fun _ => ?_) (fun _ => ?_))) | (with_reducible refine gs (fun _ => ?_) (fun _ => ?_)) | (with_reducible refine cs_ (fun _ => ?_) (fun _ => ?_)) | (with_reducible refine objQ_i (fun _ _ => ?_); (repeat (with_reducible refine imp_i (fun _ => ?_)))) | ((try with_reducible refine appK_a ?_); first | (with_reducible refine appD_F (by refine ⟨?_, ?_, ?_, ?_⟩ <;> (first | assumption | omega | exact St.has_add (by assumption) | (simp only [ins_has]; exact St.has_add (by assumption)) | (simp only [ins_has, fresh_ins, kill_ins, add_ins] at *; exact St.has_add (by assumption)) | (simp only [*, ins_has, has_full, St.has_add]; done) | (simp [-List.map_take, -List.map_drop, or_imp, forall_and, Seg.a, Vec.a, Leg.a, num, okEl, cells_agg, cells_int, cells_sl, cells_bool, AV.isCell]; done) | (simp; omega))) (fun _ _ => ?_)) | (with_reducible refine appD_V (by refine ⟨?_, ?_, ?_, ?_, ?_⟩ <;> (first | assumption | omega | exact St.has_add (by assumption) | (simp only [ins_has]; exact St.has_add (by assumption)) | (simp only [ins_has, fresh_ins, kill_ins, add_ins] at *; exact St.has_add (by assumption)) | (simp only [*, ins_has, has_full, St.has_add]; done) | (simp [-List.map_take, -List.map_drop, or_imp, forall_and, Seg.a, Vec.a, Leg.a, num, okEl, cells_agg, cells_int, cells_sl, cells_bool, AV.isCell]; done) | (simp; omega))) (fun _ _ => ?_))) | (with_reducible refine freshQ_i (fun _ _ => ?_)) | (with_reducible refine nilQ_i (fun _ _ => ?_)) | (with_reducible first | refine callH_use (hg) ?_ | refine pureQ_use (hg) ?_) | (with_reducible first | refine callH_use (head_16) ?_ | refine pureQ_use (head_16) ?_)))
  have hgf : greatF f w l = false := by simpa using hgr
  rw [hgf] at hg
  have hlim : f.length ≤ 60 ∧ l.length ≤ 30 := by
    unfold greatF at hgf
    simp only [Bool.or_eq_false_iff, decide_eq_false_iff_not] at hgf
    omega
  clear hgr hgf
  by_cases h14 : 14 < l.length
  · simp only [v_liverylaw16_SlotCut, ↓vD, vU, VE.ev, VE.evs, retvs, tupOf, grab, vfill, vbsl, eqCells, eqCell, veqs, veqs1, vmnx, AV.isCell, AV.isUndef, Nat.reduceEqDiff, Nat.reduceAdd, Nat.reduceSub, Nat.reduceLeDiff, Nat.reduceLT, reduceIte, reduceCtorEq, Nat.reduceBEq, k_app, k_slc1]
    (repeat' (first | (simp (config := { maxDischargeDepth := 16 }) only [*, vX, Int.reduceLE, Int.reduceLT, Int.reduceGE, Int.reduceGT, Int.reduceBEq, Int.reduceBNe, Int.reduceAdd, Int.reduceSub, Int.reduceMul, Int.reduceNeg, ↓vD, vU, VE.ev, VE.evs, retvs, tupOf, grab, vfill, vbsl, eqCells, eqCell, veqs, veqs1, vmnx, AV.isCell, AV.isUndef, Nat.reduceEqDiff, Nat.reduceAdd, Nat.reduceSub, Nat.reduceLeDiff, Nat.reduceLT, reduceIte, reduceCtorEq, Nat.reduceBEq]) | (simp (disch := first | assumption | omega | exact Seg.len _ | exact Vec.len _ | exact Leg.len _ | exact num_len _ | exact rowA_len _ | exact rowA_len | exact rowT_len _ | exact rowT_len | exact Seg.len | exact Vec.len | exact Leg.len | exact num_len | exact AV.slen _ _ | rfl) only [vP]) | (with_reducible (first | refine gsnd (fun _ => ?_) (fun _ => ?_) | refine csnd (fun _ => ?_) (fun _ => ?_) | refine gsd (fun _ => ?_) (fun _ => ?_) | refine csd (fun _ => ?_) (fun _ => ?_) | refine gsn (fun _ => ?_) (fun _ => ?_) | refine csn (fun _ => ?_) (fun _ => ?_))) | (with_reducible refine gs (fun _ => ?_) (fun _ => ?_)) | (with_reducible refine cs_ (fun _ => ?_) (fun _ => ?_)) | (with_reducible refine objQ_i (fun _ _ => ?_); (repeat (with_reducible refine imp_i (fun _ => ?_)))) | ((try with_reducible refine appK_a ?_); first | (with_reducible refine appD_F (by refine ⟨?_, ?_, ?_, ?_⟩ <;> (first | assumption | omega | exact St.has_add (by assumption) | (simp only [ins_has]; exact St.has_add (by assumption)) | (simp only [ins_has, fresh_ins, kill_ins, add_ins] at *; exact St.has_add (by assumption)) | (simp only [*, ins_has, has_full, St.has_add]; done) | (simp [-List.map_take, -List.map_drop, or_imp, forall_and, Seg.a, Vec.a, Leg.a, num, okEl, cells_agg, cells_int, cells_sl, cells_bool, AV.isCell]; done) | (simp; omega))) (fun _ _ => ?_)) | (with_reducible refine appD_V (by refine ⟨?_, ?_, ?_, ?_, ?_⟩ <;> (first | assumption | omega | exact St.has_add (by assumption) | (simp only [ins_has]; exact St.has_add (by assumption)) | (simp only [ins_has, fresh_ins, kill_ins, add_ins] at *; exact St.has_add (by assumption)) | (simp only [*, ins_has, has_full, St.has_add]; done) | (simp [-List.map_take, -List.map_drop, or_imp, forall_and, Seg.a, Vec.a, Leg.a, num, okEl, cells_agg, cells_int, cells_sl, cells_bool, AV.isCell]; done) | (simp; omega))) (fun _ _ => ?_))) | (with_reducible refine freshQ_i (fun _ _ => ?_)) | (with_reducible refine nilQ_i (fun _ _ => ?_)) | (with_reducible first | refine callH_use (hg) ?_ | refine pureQ_use (hg) ?_) | (with_reducible first | refine callH_use (head_16) ?_ | refine pureQ_use (head_16) ?_)))
  by_cases h00 : l.length = 0
  · simp only [v_liverylaw16_SlotCut, ↓vD, vU, VE.ev, VE.evs, retvs, tupOf, grab, vfill, vbsl, eqCells, eqCell, veqs, veqs1, vmnx, AV.isCell, AV.isUndef, Nat.reduceEqDiff, Nat.reduceAdd, Nat.reduceSub, Nat.reduceLeDiff, Nat.reduceLT, reduceIte, reduceCtorEq, Nat.reduceBEq, k_app, k_slc1]
    (repeat' (first | (simp (config := { maxDischargeDepth := 16 }) only [*, vX, Int.reduceLE, Int.reduceLT, Int.reduceGE, Int.reduceGT, Int.reduceBEq, Int.reduceBNe, Int.reduceAdd, Int.reduceSub, Int.reduceMul, Int.reduceNeg, ↓vD, vU, VE.ev, VE.evs, retvs, tupOf, grab, vfill, vbsl, eqCells, eqCell, veqs, veqs1, vmnx, AV.isCell, AV.isUndef, Nat.reduceEqDiff, Nat.reduceAdd, Nat.reduceSub, Nat.reduceLeDiff, Nat.reduceLT, reduceIte, reduceCtorEq, Nat.reduceBEq]) | (simp (disch := first | assumption | omega | exact Seg.len _ | exact Vec.len _ | exact Leg.len _ | exact num_len _ | exact rowA_len _ | exact rowA_len | exact rowT_len _ | exact rowT_len | exact Seg.len | exact Vec.len | exact Leg.len | exact num_len | exact AV.slen _ _ | rfl) only [vP]) | (with_reducible (first | refine gsnd (fun _ => ?_) (fun _ => ?_) | refine csnd (fun _ => ?_) (fun _ => ?_) | refine gsd (fun _ => ?_) (fun _ => ?_) | refine csd (fun _ => ?_) (fun _ => ?_) | refine gsn (fun _ => ?_) (fun _ => ?_) | refine csn (fun _ => ?_) (fun _ => ?_))) | (with_reducible refine gs (fun _ => ?_) (fun _ => ?_)) | (with_reducible refine cs_ (fun _ => ?_) (fun _ => ?_)) | (with_reducible refine objQ_i (fun _ _ => ?_); (repeat (with_reducible refine imp_i (fun _ => ?_)))) | ((try with_reducible refine appK_a ?_); first | (with_reducible refine appD_F (by refine ⟨?_, ?_, ?_, ?_⟩ <;> (first | assumption | omega | exact St.has_add (by assumption) | (simp only [ins_has]; exact St.has_add (by assumption)) | (simp only [ins_has, fresh_ins, kill_ins, add_ins] at *; exact St.has_add (by assumption)) | (simp only [*, ins_has, has_full, St.has_add]; done) | (simp [-List.map_take, -List.map_drop, or_imp, forall_and, Seg.a, Vec.a, Leg.a, num, okEl, cells_agg, cells_int, cells_sl, cells_bool, AV.isCell]; done) | (simp; omega))) (fun _ _ => ?_)) | (with_reducible refine appD_V (by refine ⟨?_, ?_, ?_, ?_, ?_⟩ <;> (first | assumption | omega | exact St.has_add (by assumption) | (simp only [ins_has]; exact St.has_add (by assumption)) | (simp only [ins_has, fresh_ins, kill_ins, add_ins] at *; exact St.has_add (by assumption)) | (simp only [*, ins_has, has_full, St.has_add]; done) | (simp [-List.map_take, -List.map_drop, or_imp, forall_and, Seg.a, Vec.a, Leg.a, num, okEl, cells_agg, cells_int, cells_sl, cells_bool, AV.isCell]; done) | (simp; omega))) (fun _ _ => ?_))) | (with_reducible refine freshQ_i (fun _ _ => ?_)) | (with_reducible refine nilQ_i (fun _ _ => ?_)) | (with_reducible first | refine callH_use (hg) ?_ | refine pureQ_use (hg) ?_) | (with_reducible first | refine callH_use (head_16) ?_ | refine pureQ_use (head_16) ?_)))
  have hB := Begins_c f (by omega) w w1 w4 l (by omega) .no .no
  by_cases he : (beginsF f w l).2 = 0
  case neg =>
    obtain ⟨B, hBe⟩ : ∃ B, beginsF f w l = B := ⟨_, rfl⟩
    rw [hBe] at hB he
    unfold num at hB
    clear hBe
    simp only [v_liverylaw16_SlotCut, ↓vD, vU, VE.ev, VE.evs, retvs, tupOf, grab, vfill, vbsl, eqCells, eqCell, veqs, veqs1, vmnx, AV.isCell, AV.isUndef, Nat.reduceEqDiff, Nat.reduceAdd, Nat.reduceSub, Nat.reduceLeDiff, Nat.reduceLT, reduceIte, reduceCtorEq, Nat.reduceBEq, k_app, k_slc1]
    (repeat' (first | (simp (config := { maxDischargeDepth := 16 }) only [*, vX, Int.reduceLE, Int.reduceLT, Int.reduceGE, Int.reduceGT, Int.reduceBEq, Int.reduceBNe, Int.reduceAdd, Int.reduceSub, Int.reduceMul, Int.reduceNeg, ↓vD, vU, VE.ev, VE.evs, retvs, tupOf, grab, vfill, vbsl, eqCells, eqCell, veqs, veqs1, vmnx, AV.isCell, AV.isUndef, Nat.reduceEqDiff, Nat.reduceAdd, Nat.reduceSub, Nat.reduceLeDiff, Nat.reduceLT, reduceIte, reduceCtorEq, Nat.reduceBEq]) | (simp (disch := first | assumption | omega | exact Seg.len _ | exact Vec.len _ | exact Leg.len _ | exact num_len _ | exact rowA_len _ | exact rowA_len | exact rowT_len _ | exact rowT_len | exact Seg.len | exact Vec.len | exact Leg.len | exact num_len | exact AV.slen _ _ | rfl) only [vP]) | (with_reducible (first | refine gsnd (fun _ => ?_) (fun _ => ?_) | refine csnd (fun _ => ?_) (fun _ => ?_) | refine gsd (fun _ => ?_) (fun _ => ?_) | refine csd (fun _ => ?_) (fun _ => ?_) | refine gsn (fun _ => ?_) (fun _ => ?_) | refine csn (fun _ => ?_) (fun _ => ?_))) | (with_reducible refine gs (fun _ => ?_) (fun _ => ?_)) | (with_reducible refine cs_ (fun _ => ?_) (fun _ => ?_)) | (with_reducible refine objQ_i (fun _ _ => ?_); (repeat (with_reducible refine imp_i (fun _ => ?_)))) | ((try with_reducible refine appK_a ?_); first | (with_reducible refine appD_F (by refine ⟨?_, ?_, ?_, ?_⟩ <;> (first | assumption | omega | exact St.has_add (by assumption) | (simp only [ins_has]; exact St.has_add (by assumption)) | (simp only [ins_has, fresh_ins, kill_ins, add_ins] at *; exact St.has_add (by assumption)) | (simp only [*, ins_has, has_full, St.has_add]; done) | (simp [-List.map_take, -List.map_drop, or_imp, forall_and, Seg.a, Vec.a, Leg.a, num, okEl, cells_agg, cells_int, cells_sl, cells_bool, AV.isCell]; done) | (simp; omega))) (fun _ _ => ?_)) | (with_reducible refine appD_V (by refine ⟨?_, ?_, ?_, ?_, ?_⟩ <;> (first | assumption | omega | exact St.has_add (by assumption) | (simp only [ins_has]; exact St.has_add (by assumption)) | (simp only [ins_has, fresh_ins, kill_ins, add_ins] at *; exact St.has_add (by assumption)) | (simp only [*, ins_has, has_full, St.has_add]; done) | (simp [-List.map_take, -List.map_drop, or_imp, forall_and, Seg.a, Vec.a, Leg.a, num, okEl, cells_agg, cells_int, cells_sl, cells_bool, AV.isCell]; done) | (simp; omega))) (fun _ _ => ?_))) | (with_reducible refine freshQ_i (fun _ _ => ?_)) | (with_reducible refine nilQ_i (fun _ _ => ?_)) | (with_reducible first | refine callH_use (hg) ?_ | refine pureQ_use (hg) ?_) | (with_reducible first | refine callH_use (head_16) ?_ | refine pureQ_use (head_16) ?_) | (with_reducible first | refine callH_use (hB) ?_ | refine pureQ_use (hB) ?_)))
  have hO : OkB f w l := check_ok.1 (by rw [← begins_err]; exact he)
  obtain ⟨k, hk⟩ : ∃ k : Nat, b0.tmod (l.length : Int) = (k : Int) := ⟨(b0.tmod (l.length : Int)).toNat, by rw [Int.toNat_of_nonneg (Int.tmod_nonneg _ hb0.1)]⟩
  have hkl : k < l.length := by
    have := Int.tmod_lt_of_pos b0 (show (0 : Int) < l.length by omega)
    omega
  obtain ⟨y, hy⟩ : ∃ y, l[k] = y := ⟨_, rfl⟩
  have hyd := hO.pos y (by rw [← hy]; exact List.getElem_mem _)
  by_cases hd2 : y.d < 2
  · obtain ⟨B, hBe⟩ : ∃ B, beginsF f w l = B := ⟨_, rfl⟩
    rw [hBe] at hB he
    unfold num at hB
    rw [he] at hB
    clear hBe hO he
    simp only [v_liverylaw16_SlotCut, ↓vD, vU, VE.ev, VE.evs, retvs, tupOf, grab, vfill, vbsl, eqCells, eqCell, veqs, veqs1, vmnx, AV.isCell, AV.isUndef, Nat.reduceEqDiff, Nat.reduceAdd, Nat.reduceSub, Nat.reduceLeDiff, Nat.reduceLT, reduceIte, reduceCtorEq, Nat.reduceBEq, k_app, k_slc1]
    (repeat' (first | (simp (config := { maxDischargeDepth := 16 }) only [*, iaa0, iaa1, Leg.a, e_rem, vX, Int.reduceLE, Int.reduceLT, Int.reduceGE, Int.reduceGT, Int.reduceBEq, Int.reduceBNe, Int.reduceAdd, Int.reduceSub, Int.reduceMul, Int.reduceNeg, ↓vD, vU, VE.ev, VE.evs, retvs, tupOf, grab, vfill, vbsl, eqCells, eqCell, veqs, veqs1, vmnx, AV.isCell, AV.isUndef, Nat.reduceEqDiff, Nat.reduceAdd, Nat.reduceSub, Nat.reduceLeDiff, Nat.reduceLT, reduceIte, reduceCtorEq, Nat.reduceBEq]) | (simp (disch := first | assumption | omega | exact Seg.len _ | exact Vec.len _ | exact Leg.len _ | exact num_len _ | exact rowA_len _ | exact rowA_len | exact rowT_len _ | exact rowT_len | exact Seg.len | exact Vec.len | exact Leg.len | exact num_len | exact AV.slen _ _ | rfl) only [iaa0, iaa1, Leg.a, e_rem, vP]) | (with_reducible (first | refine gsnd (fun _ => ?_) (fun _ => ?_) | refine csnd (fun _ => ?_) (fun _ => ?_) | refine gsd (fun _ => ?_) (fun _ => ?_) | refine csd (fun _ => ?_) (fun _ => ?_) | refine gsn (fun _ => ?_) (fun _ => ?_) | refine csn (fun _ => ?_) (fun _ => ?_))) | (with_reducible refine gs (fun _ => ?_) (fun _ => ?_)) | (with_reducible refine cs_ (fun _ => ?_) (fun _ => ?_)) | (with_reducible refine objQ_i (fun _ _ => ?_); (repeat (with_reducible refine imp_i (fun _ => ?_)))) | ((try with_reducible refine appK_a ?_); first | (with_reducible refine appD_F (by refine ⟨?_, ?_, ?_, ?_⟩ <;> (first | assumption | omega | exact St.has_add (by assumption) | (simp only [ins_has]; exact St.has_add (by assumption)) | (simp only [ins_has, fresh_ins, kill_ins, add_ins] at *; exact St.has_add (by assumption)) | (simp only [*, ins_has, has_full, St.has_add]; done) | (simp [-List.map_take, -List.map_drop, or_imp, forall_and, Seg.a, Vec.a, Leg.a, num, okEl, cells_agg, cells_int, cells_sl, cells_bool, AV.isCell]; done) | (simp; omega))) (fun _ _ => ?_)) | (with_reducible refine appD_V (by refine ⟨?_, ?_, ?_, ?_, ?_⟩ <;> (first | assumption | omega | exact St.has_add (by assumption) | (simp only [ins_has]; exact St.has_add (by assumption)) | (simp only [ins_has, fresh_ins, kill_ins, add_ins] at *; exact St.has_add (by assumption)) | (simp only [*, ins_has, has_full, St.has_add]; done) | (simp [-List.map_take, -List.map_drop, or_imp, forall_and, Seg.a, Vec.a, Leg.a, num, okEl, cells_agg, cells_int, cells_sl, cells_bool, AV.isCell]; done) | (simp; omega))) (fun _ _ => ?_))) | (with_reducible refine freshQ_i (fun _ _ => ?_)) | (with_reducible refine nilQ_i (fun _ _ => ?_)) | (with_reducible first | refine callH_use (hg) ?_ | refine pureQ_use (hg) ?_) | (with_reducible first | refine callH_use (head_16) ?_ | refine pureQ_use (head_16) ?_) | (with_reducible first | refine callH_use (hB) ?_ | refine pureQ_use (hB) ?_)))
  obtain ⟨m, hm⟩ : ∃ m, b1.tmod (y.d - 1) = m := ⟨_, rfl⟩
  have hm0 : 0 ≤ m := by rw [← hm]; exact Int.tmod_nonneg _ hb1.1
  have hm1 : m < y.d - 1 := by
    have := Int.tmod_lt_of_pos b1 (show (0 : Int) < y.d - 1 by omega)
    omega
  have hcut := slot_cut hO hkl (by omega) hy (n := 1 + m) (by omega) (by omega)
  have hB2 := Begins_c f (by omega) w w1 w4 (cutL l k (1 + m) y) (by unfold cutL; simp; omega) .no
  rw [hcut] at hB2
  obtain ⟨hn1, hn2⟩ := slot_none hO (by omega)
  have hB3 := Begins_c f (by omega) w w1 w4 (noneL :: l) (by simp; omega) .no
  rw [hn1] at hB3
  have hbd := begins_bd f w l
  have hbd3 := begins_bd f w (noneL :: l)
  have hlen := (beginsF_len f w l).1
  have hlen3 := (beginsF_len f w (noneL :: l)).1
  rw [he] at hB
  obtain ⟨A, hA⟩ : ∃ A, (beginsF f w l).1 = A := ⟨_, rfl⟩
  obtain ⟨C, hC⟩ : ∃ C, (beginsF f w (noneL :: l)).1 = C := ⟨_, rfl⟩
  rw [hA] at hB hB2 hn2 hbd hlen
  rw [hC] at hB3 hn2 hbd3 hlen3
  have hS := Same_16 A A (by omega)
  rw [beq_self_eq_true] at hS
  simp only [cutL, noneL, List.map_append, List.map_cons, List.map_nil, Leg.a, num] at hB hB2 hB3
  have HN := Hid.mk hn2
  have HA := Hid.mk hbd
  have HC := Hid.mk hbd3
  clear hcut hn1 hn2 hbd hbd3 hO he hA hC
  simp only [v_liverylaw16_SlotCut, ↓vD, vU, VE.ev, VE.evs, retvs, tupOf, grab, vfill, vbsl, eqCells, eqCell, veqs, veqs1, vmnx, AV.isCell, AV.isUndef, Nat.reduceEqDiff, Nat.reduceAdd, Nat.reduceSub, Nat.reduceLeDiff, Nat.reduceLT, reduceIte, reduceCtorEq, Nat.reduceBEq, k_app, k_slc1]
  (repeat' (first | (simp (config := { maxDischargeDepth := 16 }) only [*, iaa0, iaa1, Leg.a, e_rem, List.nil_append, toNat_succ, vX, Int.reduceLE, Int.reduceLT, Int.reduceGE, Int.reduceGT, Int.reduceBEq, Int.reduceBNe, Int.reduceAdd, Int.reduceSub, Int.reduceMul, Int.reduceNeg, ↓vD, vU, VE.ev, VE.evs, retvs, tupOf, grab, vfill, vbsl, eqCells, eqCell, veqs, veqs1, vmnx, AV.isCell, AV.isUndef, Nat.reduceEqDiff, Nat.reduceAdd, Nat.reduceSub, Nat.reduceLeDiff, Nat.reduceLT, reduceIte, reduceCtorEq, Nat.reduceBEq]) | (simp (disch := first | assumption | omega | exact Seg.len _ | exact Vec.len _ | exact Leg.len _ | exact num_len _ | exact rowA_len _ | exact rowA_len | exact rowT_len _ | exact rowT_len | exact Seg.len | exact Vec.len | exact Leg.len | exact num_len | exact AV.slen _ _ | rfl) only [iaa0, iaa1, Leg.a, e_rem, List.nil_append, toNat_succ, vP]) | (with_reducible (first | refine gsnd (fun _ => ?_) (fun _ => ?_) | refine csnd (fun _ => ?_) (fun _ => ?_) | refine gsd (fun _ => ?_) (fun _ => ?_) | refine csd (fun _ => ?_) (fun _ => ?_) | refine gsn (fun _ => ?_) (fun _ => ?_) | refine csn (fun _ => ?_) (fun _ => ?_))) | (with_reducible refine gs (fun _ => ?_) (fun _ => ?_)) | (with_reducible refine cs_ (fun _ => ?_) (fun _ => ?_)) | (with_reducible refine objQ_i (fun _ _ => ?_); (repeat (with_reducible refine imp_i (fun _ => ?_)))) | ((try with_reducible refine appK_a ?_); first | (with_reducible refine appD_F (by refine ⟨?_, ?_, ?_, ?_⟩ <;> (first | assumption | omega | exact St.has_add (by assumption) | (simp only [ins_has]; exact St.has_add (by assumption)) | (simp only [ins_has, fresh_ins, kill_ins, add_ins] at *; exact St.has_add (by assumption)) | (simp only [*, ins_has, has_full, St.has_add]; done) | (simp [-List.map_take, -List.map_drop, or_imp, forall_and, Seg.a, Vec.a, Leg.a, num, okEl, cells_agg, cells_int, cells_sl, cells_bool, AV.isCell]; done) | (simp; omega))) (fun _ _ => ?_)) | (with_reducible refine appD_V (by refine ⟨?_, ?_, ?_, ?_, ?_⟩ <;> (first | assumption | omega | exact St.has_add (by assumption) | (simp only [ins_has]; exact St.has_add (by assumption)) | (simp only [ins_has, fresh_ins, kill_ins, add_ins] at *; exact St.has_add (by assumption)) | (simp only [*, ins_has, has_full, St.has_add]; done) | (simp [-List.map_take, -List.map_drop, or_imp, forall_and, Seg.a, Vec.a, Leg.a, num, okEl, cells_agg, cells_int, cells_sl, cells_bool, AV.isCell]; done) | (simp; omega))) (fun _ _ => ?_))) | (with_reducible refine freshQ_i (fun _ _ => ?_)) | (with_reducible refine nilQ_i (fun _ _ => ?_)) | (with_reducible first | refine callH_use (hg) ?_ | refine pureQ_use (hg) ?_) | (with_reducible first | refine callH_use (head_16) ?_ | refine pureQ_use (head_16) ?_) | (with_reducible first | refine callH_use (hB) ?_ | refine pureQ_use (hB) ?_) | (with_reducible first | refine callH_use (hB2 _) ?_ | refine pureQ_use (hB2 _) ?_) | (with_reducible first | refine callH_use (hB3 _) ?_ | refine pureQ_use (hB3 _) ?_) | (with_reducible first | refine callH_use (hS _ _) ?_ | refine pureQ_use (hS _ _) ?_) | (with_reducible first | refine callH_use (v_16 _) ?_ | refine pureQ_use (v_16 _) ?_)))
  refine loopp_of (len := A.length) (by simp only [asgL, dsts, List.cons_append, List.nil_append, List.append_nil]; rfl) (by simp only [noR, Bool.and_true, Bool.and_false]; rfl) (by omega) (fun k fr => ∃ q, fr.t 18 = .int .i64 k ∧ fr.t 17 = .int .i64 q ∧ q = sumW (A.take k)) ?_ ?_ ?_
  · exact ⟨0, by simp [↓vD, vU, VE.ev, VE.evs, retvs, tupOf, grab, vfill, vbsl, eqCells, eqCell, veqs, veqs1, vmnx, AV.isCell, AV.isUndef, Nat.reduceEqDiff, Nat.reduceAdd, Nat.reduceSub, Nat.reduceLeDiff, Nat.reduceLT, reduceIte, reduceCtorEq, Nat.reduceBEq, k_app, k_slc1], by simp [↓vD, vU, VE.ev, VE.evs, retvs, tupOf, grab, vfill, vbsl, eqCells, eqCell, veqs, veqs1, vmnx, AV.isCell, AV.isUndef, Nat.reduceEqDiff, Nat.reduceAdd, Nat.reduceSub, Nat.reduceLeDiff, Nat.reduceLT, reduceIte, reduceCtorEq, Nat.reduceBEq, k_app, k_slc1], by simp [sumW]⟩
  · rintro i fr hi hw hfr hd ⟨q, h18, h17, hq⟩
    obtain ⟨z, hz⟩ : ∃ z, A[i] = z := ⟨_, rfl⟩
    have hzb := HA.out z (by rw [← hz]; exact List.getElem_mem _)
    have hsb := sumW_bd (M := 5000) (l := A.take i) (fun y hy => (HA.out y (List.mem_of_mem_take hy)).1)
    rw [← hq, List.length_take, Nat.min_eq_left (by omega)] at hsb
    have hnx : q + z.c - z.m = sumW (A.take (i + 1)) := by rw [sumW_take hi, hz, hq]
    have HX := Hid.mk hnx
    clear hnx hq
    (repeat' (first | (simp (config := { maxDischargeDepth := 16 }) only [*, Vec.a, vX, Int.reduceLE, Int.reduceLT, Int.reduceGE, Int.reduceGT, Int.reduceBEq, Int.reduceBNe, Int.reduceAdd, Int.reduceSub, Int.reduceMul, Int.reduceNeg, ↓vD, vU, VE.ev, VE.evs, retvs, tupOf, grab, vfill, vbsl, eqCells, eqCell, veqs, veqs1, vmnx, AV.isCell, AV.isUndef, Nat.reduceEqDiff, Nat.reduceAdd, Nat.reduceSub, Nat.reduceLeDiff, Nat.reduceLT, reduceIte, reduceCtorEq, Nat.reduceBEq]) | (simp (disch := first | assumption | omega | exact Seg.len _ | exact Vec.len _ | exact Leg.len _ | exact num_len _ | exact rowA_len _ | exact rowA_len | exact rowT_len _ | exact rowT_len | exact Seg.len | exact Vec.len | exact Leg.len | exact num_len | exact AV.slen _ _ | rfl) only [Vec.a, vP]) | (with_reducible (first | refine gsnd (fun _ => ?_) (fun _ => ?_) | refine csnd (fun _ => ?_) (fun _ => ?_) | refine gsd (fun _ => ?_) (fun _ => ?_) | refine csd (fun _ => ?_) (fun _ => ?_) | refine gsn (fun _ => ?_) (fun _ => ?_) | refine csn (fun _ => ?_) (fun _ => ?_))) | (with_reducible refine gs (fun _ => ?_) (fun _ => ?_)) | (with_reducible refine cs_ (fun _ => ?_) (fun _ => ?_)) | (with_reducible refine objQ_i (fun _ _ => ?_); (repeat (with_reducible refine imp_i (fun _ => ?_)))) | ((try with_reducible refine appK_a ?_); first | (with_reducible refine appD_F (by refine ⟨?_, ?_, ?_, ?_⟩ <;> (first | assumption | omega | exact St.has_add (by assumption) | (simp only [ins_has]; exact St.has_add (by assumption)) | (simp only [ins_has, fresh_ins, kill_ins, add_ins] at *; exact St.has_add (by assumption)) | (simp only [*, ins_has, has_full, St.has_add]; done) | (simp [-List.map_take, -List.map_drop, or_imp, forall_and, Seg.a, Vec.a, Leg.a, num, okEl, cells_agg, cells_int, cells_sl, cells_bool, AV.isCell]; done) | (simp; omega))) (fun _ _ => ?_)) | (with_reducible refine appD_V (by refine ⟨?_, ?_, ?_, ?_, ?_⟩ <;> (first | assumption | omega | exact St.has_add (by assumption) | (simp only [ins_has]; exact St.has_add (by assumption)) | (simp only [ins_has, fresh_ins, kill_ins, add_ins] at *; exact St.has_add (by assumption)) | (simp only [*, ins_has, has_full, St.has_add]; done) | (simp [-List.map_take, -List.map_drop, or_imp, forall_and, Seg.a, Vec.a, Leg.a, num, okEl, cells_agg, cells_int, cells_sl, cells_bool, AV.isCell]; done) | (simp; omega))) (fun _ _ => ?_))) | (with_reducible refine freshQ_i (fun _ _ => ?_)) | (with_reducible refine nilQ_i (fun _ _ => ?_))))
    exact ⟨_, rfl, HX.out⟩
  · rintro fr hfr hd ⟨q, h18, h17, hq⟩
    rw [List.take_length] at hq
    have HQ := Hid.mk hq
    have hqb := sumW_bd (M := 5000) (l := A) (fun y hy => (HA.out y hy).1)
    rw [← hq] at hqb
    clear hq
    (repeat' (first | (simp (config := { maxDischargeDepth := 16 }) only [*, vX, Int.reduceLE, Int.reduceLT, Int.reduceGE, Int.reduceGT, Int.reduceBEq, Int.reduceBNe, Int.reduceAdd, Int.reduceSub, Int.reduceMul, Int.reduceNeg, ↓vD, vU, VE.ev, VE.evs, retvs, tupOf, grab, vfill, vbsl, eqCells, eqCell, veqs, veqs1, vmnx, AV.isCell, AV.isUndef, Nat.reduceEqDiff, Nat.reduceAdd, Nat.reduceSub, Nat.reduceLeDiff, Nat.reduceLT, reduceIte, reduceCtorEq, Nat.reduceBEq]) | (simp (disch := first | assumption | omega | exact Seg.len _ | exact Vec.len _ | exact Leg.len _ | exact num_len _ | exact rowA_len _ | exact rowA_len | exact rowT_len _ | exact rowT_len | exact Seg.len | exact Vec.len | exact Leg.len | exact num_len | exact AV.slen _ _ | rfl) only [vP]) | (with_reducible (first | refine gsnd (fun _ => ?_) (fun _ => ?_) | refine csnd (fun _ => ?_) (fun _ => ?_) | refine gsd (fun _ => ?_) (fun _ => ?_) | refine csd (fun _ => ?_) (fun _ => ?_) | refine gsn (fun _ => ?_) (fun _ => ?_) | refine csn (fun _ => ?_) (fun _ => ?_))) | (with_reducible refine gs (fun _ => ?_) (fun _ => ?_)) | (with_reducible refine cs_ (fun _ => ?_) (fun _ => ?_)) | (with_reducible refine objQ_i (fun _ _ => ?_); (repeat (with_reducible refine imp_i (fun _ => ?_)))) | ((try with_reducible refine appK_a ?_); first | (with_reducible refine appD_F (by refine ⟨?_, ?_, ?_, ?_⟩ <;> (first | assumption | omega | exact St.has_add (by assumption) | (simp only [ins_has]; exact St.has_add (by assumption)) | (simp only [ins_has, fresh_ins, kill_ins, add_ins] at *; exact St.has_add (by assumption)) | (simp only [*, ins_has, has_full, St.has_add]; done) | (simp [-List.map_take, -List.map_drop, or_imp, forall_and, Seg.a, Vec.a, Leg.a, num, okEl, cells_agg, cells_int, cells_sl, cells_bool, AV.isCell]; done) | (simp; omega))) (fun _ _ => ?_)) | (with_reducible refine appD_V (by refine ⟨?_, ?_, ?_, ?_, ?_⟩ <;> (first | assumption | omega | exact St.has_add (by assumption) | (simp only [ins_has]; exact St.has_add (by assumption)) | (simp only [ins_has, fresh_ins, kill_ins, add_ins] at *; exact St.has_add (by assumption)) | (simp only [*, ins_has, has_full, St.has_add]; done) | (simp [-List.map_take, -List.map_drop, or_imp, forall_and, Seg.a, Vec.a, Leg.a, num, okEl, cells_agg, cells_int, cells_sl, cells_bool, AV.isCell]; done) | (simp; omega))) (fun _ _ => ?_))) | (with_reducible refine freshQ_i (fun _ _ => ?_)) | (with_reducible refine nilQ_i (fun _ _ => ?_))))
    refine loopp_of (len := C.length) (by simp only [asgL, dsts, List.cons_append, List.nil_append, List.append_nil]; rfl) (by simp only [noR, Bool.and_true, Bool.and_false]; rfl) (by omega) (fun k fr => ∃ q, fr.t 20 = .int .i64 k ∧ fr.t 19 = .int .i64 q ∧ q = sumW (C.take k)) ?_ ?_ ?_
    · exact ⟨0, by simp [↓vD, vU, VE.ev, VE.evs, retvs, tupOf, grab, vfill, vbsl, eqCells, eqCell, veqs, veqs1, vmnx, AV.isCell, AV.isUndef, Nat.reduceEqDiff, Nat.reduceAdd, Nat.reduceSub, Nat.reduceLeDiff, Nat.reduceLT, reduceIte, reduceCtorEq, Nat.reduceBEq, k_app, k_slc1], by simp [↓vD, vU, VE.ev, VE.evs, retvs, tupOf, grab, vfill, vbsl, eqCells, eqCell, veqs, veqs1, vmnx, AV.isCell, AV.isUndef, Nat.reduceEqDiff, Nat.reduceAdd, Nat.reduceSub, Nat.reduceLeDiff, Nat.reduceLT, reduceIte, reduceCtorEq, Nat.reduceBEq, k_app, k_slc1], by simp [sumW]⟩
    · rintro i fr2 hi hw hfr2 hd2 ⟨q2, h20, h19, hq2⟩
      obtain ⟨z, hz⟩ : ∃ z, C[i] = z := ⟨_, rfl⟩
      have hzb := HC.out z (by rw [← hz]; exact List.getElem_mem _)
      have hsb := sumW_bd (M := 5000) (l := C.take i) (fun y hy => (HC.out y (List.mem_of_mem_take hy)).1)
      rw [← hq2, List.length_take, Nat.min_eq_left (by omega)] at hsb
      have hnx : q2 + z.c - z.m = sumW (C.take (i + 1)) := by rw [sumW_take hi, hz, hq2]
      have HX := Hid.mk hnx
      clear hnx hq2
      (repeat' (first | (simp (config := { maxDischargeDepth := 16 }) only [*, Vec.a, vX, Int.reduceLE, Int.reduceLT, Int.reduceGE, Int.reduceGT, Int.reduceBEq, Int.reduceBNe, Int.reduceAdd, Int.reduceSub, Int.reduceMul, Int.reduceNeg, ↓vD, vU, VE.ev, VE.evs, retvs, tupOf, grab, vfill, vbsl, eqCells, eqCell, veqs, veqs1, vmnx, AV.isCell, AV.isUndef, Nat.reduceEqDiff, Nat.reduceAdd, Nat.reduceSub, Nat.reduceLeDiff, Nat.reduceLT, reduceIte, reduceCtorEq, Nat.reduceBEq]) | (simp (disch := first | assumption | omega | exact Seg.len _ | exact Vec.len _ | exact Leg.len _ | exact num_len _ | exact rowA_len _ | exact rowA_len | exact rowT_len _ | exact rowT_len | exact Seg.len | exact Vec.len | exact Leg.len | exact num_len | exact AV.slen _ _ | rfl) only [Vec.a, vP]) | (with_reducible (first | refine gsnd (fun _ => ?_) (fun _ => ?_) | refine csnd (fun _ => ?_) (fun _ => ?_) | refine gsd (fun _ => ?_) (fun _ => ?_) | refine csd (fun _ => ?_) (fun _ => ?_) | refine gsn (fun _ => ?_) (fun _ => ?_) | refine csn (fun _ => ?_) (fun _ => ?_))) | (with_reducible refine gs (fun _ => ?_) (fun _ => ?_)) | (with_reducible refine cs_ (fun _ => ?_) (fun _ => ?_)) | (with_reducible refine objQ_i (fun _ _ => ?_); (repeat (with_reducible refine imp_i (fun _ => ?_)))) | ((try with_reducible refine appK_a ?_); first | (with_reducible refine appD_F (by refine ⟨?_, ?_, ?_, ?_⟩ <;> (first | assumption | omega | exact St.has_add (by assumption) | (simp only [ins_has]; exact St.has_add (by assumption)) | (simp only [ins_has, fresh_ins, kill_ins, add_ins] at *; exact St.has_add (by assumption)) | (simp only [*, ins_has, has_full, St.has_add]; done) | (simp [-List.map_take, -List.map_drop, or_imp, forall_and, Seg.a, Vec.a, Leg.a, num, okEl, cells_agg, cells_int, cells_sl, cells_bool, AV.isCell]; done) | (simp; omega))) (fun _ _ => ?_)) | (with_reducible refine appD_V (by refine ⟨?_, ?_, ?_, ?_, ?_⟩ <;> (first | assumption | omega | exact St.has_add (by assumption) | (simp only [ins_has]; exact St.has_add (by assumption)) | (simp only [ins_has, fresh_ins, kill_ins, add_ins] at *; exact St.has_add (by assumption)) | (simp only [*, ins_has, has_full, St.has_add]; done) | (simp [-List.map_take, -List.map_drop, or_imp, forall_and, Seg.a, Vec.a, Leg.a, num, okEl, cells_agg, cells_int, cells_sl, cells_bool, AV.isCell]; done) | (simp; omega))) (fun _ _ => ?_))) | (with_reducible refine freshQ_i (fun _ _ => ?_)) | (with_reducible refine nilQ_i (fun _ _ => ?_))))
      exact ⟨_, rfl, HX.out⟩
    · rintro fr2 hfr2 hd2 ⟨q2, h20, h19, hq2⟩
      rw [List.take_length] at hq2
      by_cases hA0 : A.length = 0
      · have hnil : A = [] := List.length_eq_zero_iff.1 hA0
        have e : q2 = q := by rw [hq2, HN.out, HQ.out, hnil]; simp
        subst e
        clear hq2 hnil
        (repeat' (first | (simp (config := { maxDischargeDepth := 16 }) only [*, Vec.a, vX, Int.reduceLE, Int.reduceLT, Int.reduceGE, Int.reduceGT, Int.reduceBEq, Int.reduceBNe, Int.reduceAdd, Int.reduceSub, Int.reduceMul, Int.reduceNeg, ↓vD, vU, VE.ev, VE.evs, retvs, tupOf, grab, vfill, vbsl, eqCells, eqCell, veqs, veqs1, vmnx, AV.isCell, AV.isUndef, Nat.reduceEqDiff, Nat.reduceAdd, Nat.reduceSub, Nat.reduceLeDiff, Nat.reduceLT, reduceIte, reduceCtorEq, Nat.reduceBEq]) | (simp (disch := first | assumption | omega | exact Seg.len _ | exact Vec.len _ | exact Leg.len _ | exact num_len _ | exact rowA_len _ | exact rowA_len | exact rowT_len _ | exact rowT_len | exact Seg.len | exact Vec.len | exact Leg.len | exact num_len | exact AV.slen _ _ | rfl) only [Vec.a, vP]) | (with_reducible (first | refine gsnd (fun _ => ?_) (fun _ => ?_) | refine csnd (fun _ => ?_) (fun _ => ?_) | refine gsd (fun _ => ?_) (fun _ => ?_) | refine csd (fun _ => ?_) (fun _ => ?_) | refine gsn (fun _ => ?_) (fun _ => ?_) | refine csn (fun _ => ?_) (fun _ => ?_))) | (with_reducible refine gs (fun _ => ?_) (fun _ => ?_)) | (with_reducible refine cs_ (fun _ => ?_) (fun _ => ?_)) | (with_reducible refine objQ_i (fun _ _ => ?_); (repeat (with_reducible refine imp_i (fun _ => ?_)))) | ((try with_reducible refine appK_a ?_); first | (with_reducible refine appD_F (by refine ⟨?_, ?_, ?_, ?_⟩ <;> (first | assumption | omega | exact St.has_add (by assumption) | (simp only [ins_has]; exact St.has_add (by assumption)) | (simp only [ins_has, fresh_ins, kill_ins, add_ins] at *; exact St.has_add (by assumption)) | (simp only [*, ins_has, has_full, St.has_add]; done) | (simp [-List.map_take, -List.map_drop, or_imp, forall_and, Seg.a, Vec.a, Leg.a, num, okEl, cells_agg, cells_int, cells_sl, cells_bool, AV.isCell]; done) | (simp; omega))) (fun _ _ => ?_)) | (with_reducible refine appD_V (by refine ⟨?_, ?_, ?_, ?_, ?_⟩ <;> (first | assumption | omega | exact St.has_add (by assumption) | (simp only [ins_has]; exact St.has_add (by assumption)) | (simp only [ins_has, fresh_ins, kill_ins, add_ins] at *; exact St.has_add (by assumption)) | (simp only [*, ins_has, has_full, St.has_add]; done) | (simp [-List.map_take, -List.map_drop, or_imp, forall_and, Seg.a, Vec.a, Leg.a, num, okEl, cells_agg, cells_int, cells_sl, cells_bool, AV.isCell]; done) | (simp; omega))) (fun _ _ => ?_))) | (with_reducible refine freshQ_i (fun _ _ => ?_)) | (with_reducible refine nilQ_i (fun _ _ => ?_)) | (with_reducible first | refine callH_use (head_16) ?_ | refine pureQ_use (head_16) ?_)))
        all_goals ((try clear hfr); (try clear hfr2); (try clear hfr3); (try clear hf); (try clear hf2); (try clear hd); (try clear hd2); (try clear hd3); (try simp only [fresh_ins, kill_ins, add_ins] at *); (repeat' (first | exact St.le.refl _ | (with_reducible refine le_ins_new ?_ _ (by assumption)) | (with_reducible refine St.le.trans ?_ (add_kill_le (by assumption))) | (with_reducible refine le_add_t _ ?_))))
      · obtain ⟨y, hy0⟩ : ∃ y, A.getD 0 default = y := ⟨_, rfl⟩
        have hh : A.head? = some y := by rw [List.head?_eq_getElem?, List.getElem?_eq_getElem (by omega), ← hy0, List.getD_eq_getElem?_getD, List.getElem?_eq_getElem (by omega)]; rfl
        have hn := HN.out
        rw [hh] at hn
        simp only [Option.map_some, Option.some.injEq] at hn
        rw [← hq2, ← HQ.out] at hn
        clear hh hq2
        by_cases hm : y.m = w.m
        · rw [if_pos hm] at hn
          subst hn
          (repeat' (first | (simp (config := { maxDischargeDepth := 16 }) only [*, Vec.a, vX, Int.reduceLE, Int.reduceLT, Int.reduceGE, Int.reduceGT, Int.reduceBEq, Int.reduceBNe, Int.reduceAdd, Int.reduceSub, Int.reduceMul, Int.reduceNeg, ↓vD, vU, VE.ev, VE.evs, retvs, tupOf, grab, vfill, vbsl, eqCells, eqCell, veqs, veqs1, vmnx, AV.isCell, AV.isUndef, Nat.reduceEqDiff, Nat.reduceAdd, Nat.reduceSub, Nat.reduceLeDiff, Nat.reduceLT, reduceIte, reduceCtorEq, Nat.reduceBEq]) | (simp (disch := first | assumption | omega | exact Seg.len _ | exact Vec.len _ | exact Leg.len _ | exact num_len _ | exact rowA_len _ | exact rowA_len | exact rowT_len _ | exact rowT_len | exact Seg.len | exact Vec.len | exact Leg.len | exact num_len | exact AV.slen _ _ | rfl) only [Vec.a, vP]) | (with_reducible (first | refine gsnd (fun _ => ?_) (fun _ => ?_) | refine csnd (fun _ => ?_) (fun _ => ?_) | refine gsd (fun _ => ?_) (fun _ => ?_) | refine csd (fun _ => ?_) (fun _ => ?_) | refine gsn (fun _ => ?_) (fun _ => ?_) | refine csn (fun _ => ?_) (fun _ => ?_))) | (with_reducible refine gs (fun _ => ?_) (fun _ => ?_)) | (with_reducible refine cs_ (fun _ => ?_) (fun _ => ?_)) | (with_reducible refine objQ_i (fun _ _ => ?_); (repeat (with_reducible refine imp_i (fun _ => ?_)))) | ((try with_reducible refine appK_a ?_); first | (with_reducible refine appD_F (by refine ⟨?_, ?_, ?_, ?_⟩ <;> (first | assumption | omega | exact St.has_add (by assumption) | (simp only [ins_has]; exact St.has_add (by assumption)) | (simp only [ins_has, fresh_ins, kill_ins, add_ins] at *; exact St.has_add (by assumption)) | (simp only [*, ins_has, has_full, St.has_add]; done) | (simp [-List.map_take, -List.map_drop, or_imp, forall_and, Seg.a, Vec.a, Leg.a, num, okEl, cells_agg, cells_int, cells_sl, cells_bool, AV.isCell]; done) | (simp; omega))) (fun _ _ => ?_)) | (with_reducible refine appD_V (by refine ⟨?_, ?_, ?_, ?_, ?_⟩ <;> (first | assumption | omega | exact St.has_add (by assumption) | (simp only [ins_has]; exact St.has_add (by assumption)) | (simp only [ins_has, fresh_ins, kill_ins, add_ins] at *; exact St.has_add (by assumption)) | (simp only [*, ins_has, has_full, St.has_add]; done) | (simp [-List.map_take, -List.map_drop, or_imp, forall_and, Seg.a, Vec.a, Leg.a, num, okEl, cells_agg, cells_int, cells_sl, cells_bool, AV.isCell]; done) | (simp; omega))) (fun _ _ => ?_))) | (with_reducible refine freshQ_i (fun _ _ => ?_)) | (with_reducible refine nilQ_i (fun _ _ => ?_)) | (with_reducible first | refine callH_use (head_16) ?_ | refine pureQ_use (head_16) ?_)))
          all_goals ((try clear hfr); (try clear hfr2); (try clear hfr3); (try clear hf); (try clear hf2); (try clear hd); (try clear hd2); (try clear hd3); (try simp only [fresh_ins, kill_ins, add_ins] at *); (repeat' (first | exact St.le.refl _ | (with_reducible refine le_ins_new ?_ _ (by assumption)) | (with_reducible refine St.le.trans ?_ (add_kill_le (by assumption))) | (with_reducible refine le_add_t _ ?_))))
        · rw [if_neg hm] at hn
          have e : q2 = q := by omega
          subst e
          clear hn
          (repeat' (first | (simp (config := { maxDischargeDepth := 16 }) only [*, Vec.a, vX, Int.reduceLE, Int.reduceLT, Int.reduceGE, Int.reduceGT, Int.reduceBEq, Int.reduceBNe, Int.reduceAdd, Int.reduceSub, Int.reduceMul, Int.reduceNeg, ↓vD, vU, VE.ev, VE.evs, retvs, tupOf, grab, vfill, vbsl, eqCells, eqCell, veqs, veqs1, vmnx, AV.isCell, AV.isUndef, Nat.reduceEqDiff, Nat.reduceAdd, Nat.reduceSub, Nat.reduceLeDiff, Nat.reduceLT, reduceIte, reduceCtorEq, Nat.reduceBEq]) | (simp (disch := first | assumption | omega | exact Seg.len _ | exact Vec.len _ | exact Leg.len _ | exact num_len _ | exact rowA_len _ | exact rowA_len | exact rowT_len _ | exact rowT_len | exact Seg.len | exact Vec.len | exact Leg.len | exact num_len | exact AV.slen _ _ | rfl) only [Vec.a, vP]) | (with_reducible (first | refine gsnd (fun _ => ?_) (fun _ => ?_) | refine csnd (fun _ => ?_) (fun _ => ?_) | refine gsd (fun _ => ?_) (fun _ => ?_) | refine csd (fun _ => ?_) (fun _ => ?_) | refine gsn (fun _ => ?_) (fun _ => ?_) | refine csn (fun _ => ?_) (fun _ => ?_))) | (with_reducible refine gs (fun _ => ?_) (fun _ => ?_)) | (with_reducible refine cs_ (fun _ => ?_) (fun _ => ?_)) | (with_reducible refine objQ_i (fun _ _ => ?_); (repeat (with_reducible refine imp_i (fun _ => ?_)))) | ((try with_reducible refine appK_a ?_); first | (with_reducible refine appD_F (by refine ⟨?_, ?_, ?_, ?_⟩ <;> (first | assumption | omega | exact St.has_add (by assumption) | (simp only [ins_has]; exact St.has_add (by assumption)) | (simp only [ins_has, fresh_ins, kill_ins, add_ins] at *; exact St.has_add (by assumption)) | (simp only [*, ins_has, has_full, St.has_add]; done) | (simp [-List.map_take, -List.map_drop, or_imp, forall_and, Seg.a, Vec.a, Leg.a, num, okEl, cells_agg, cells_int, cells_sl, cells_bool, AV.isCell]; done) | (simp; omega))) (fun _ _ => ?_)) | (with_reducible refine appD_V (by refine ⟨?_, ?_, ?_, ?_, ?_⟩ <;> (first | assumption | omega | exact St.has_add (by assumption) | (simp only [ins_has]; exact St.has_add (by assumption)) | (simp only [ins_has, fresh_ins, kill_ins, add_ins] at *; exact St.has_add (by assumption)) | (simp only [*, ins_has, has_full, St.has_add]; done) | (simp [-List.map_take, -List.map_drop, or_imp, forall_and, Seg.a, Vec.a, Leg.a, num, okEl, cells_agg, cells_int, cells_sl, cells_bool, AV.isCell]; done) | (simp; omega))) (fun _ _ => ?_))) | (with_reducible refine freshQ_i (fun _ _ => ?_)) | (with_reducible refine nilQ_i (fun _ _ => ?_)) | (with_reducible first | refine callH_use (head_16) ?_ | refine pureQ_use (head_16) ?_)))
          all_goals ((try clear hfr); (try clear hfr2); (try clear hfr3); (try clear hf); (try clear hf2); (try clear hd); (try clear hd2); (try clear hd3); (try simp only [fresh_ins, kill_ins, add_ins] at *); (repeat' (first | exact St.le.refl _ | (with_reducible refine le_ins_new ?_ _ (by assumption)) | (with_reducible refine St.le.trans ?_ (add_kill_le (by assumption))) | (with_reducible refine le_add_t _ ?_))))
end Go.Proofs.Ytddbnncimggogaa.V
end
section
set_option linter.unusedSimpArgs false
set_option linter.unusedVariables false
/- The rows that SlotCut and SlotMore are handed. -/
namespace Go.Proofs.Ytddbnncimggogaa.V
open Go Go.ChangeShapes Go.WideShapes Go.ChangeAt Go.RowKit Go.Deep
set_option maxRecDepth 100000
theorem u8_of {n : Int} (h : (Lit.int .u8 n).wf = true) : U8 n := by
  simp [Lit.wf] at h
  unfold U8
  first | exact h | omega | (have := h; simp [IntKind.wrap, IntKind.lo, IntKind.hi] at this; omega)
theorem opn_RowX : Opn 64 5 RowX.a wfRowX :=
  opn_of (OpC.mono (opc_struct (ps := [(2, _), (1, _), (2, _)]) Try.underlying64 (by kernel_rfl) ⟨⟨rfl, by kernel_rfl, opc_of opn_win⟩, ⟨rfl, by kernel_rfl, opc_sl Try.underlying61 (by kernel_rfl) (by decide) opn_leg⟩,
    ⟨rfl, by kernel_rfl, opc_array (m := 2) (n := 1) Try.underlying62 (by kernel_rfl) (by kernel_rfl) (opc_int (by kernel_rfl))⟩, trivial⟩) (by
    rintro l ⟨_, _, rfl, ⟨w, rfl, hw⟩, _, _, rfl, ⟨ls, rfl, hl⟩, _, _, rfl, ⟨_, _, rfl, ⟨a, rfl, ha⟩, _, _, rfl, ⟨b, rfl, hb⟩, rfl⟩, rfl⟩
    exact ⟨⟨w, ls, a, b⟩, rfl, hw, hl, u8_of ha, u8_of hb⟩))
theorem open_RowX {H : Type} {enc : TypeId × Value → H} {w : World} {base base' : Nat} {spare : Nat → Bool} {held : Bool} {v : Value} {d : DataW H} {ps : List MemPlace} {r : Reach} (hval : Value.okWide Try.prog w r base' 64 v) (h : DataW.Trod enc Try.prog w base spare held 64 v d ps) :
    ∃ x : RowX, Rep (imW w) x.a v ∧ wfRowX x := open_agg (g := fun x : RowX => [.int .i64 x.w.m, .int .i64 x.w.c, .sl (x.l.map Leg.a) .no, .int .u8 x.b0, .int .u8 x.b1]) Try.underlying64 opn_RowX hval h
end Go.Proofs.Ytddbnncimggogaa.V
end
