/- Texts of this claim, joined: Cspan, Cspan2, VXfit, Cfit, Pcalc5, Pfit, Cvec2, Cfit2, Pfit2, Cfit3, Cfit4, Cfit5, VXliverylaw15, Chead15, Cfit6, Pfit3, Pfit4, C15b0, VOpn, O15, VXliveryref15, Cinto. -/
import Derived.Test.YtglekfgoadehbaaGreatDoorQFitTells4
import Derived.Test.YtglekfgoadehbaaGreatDoorQFitTells2
import Derived.Test.YtglekfgoadehbaaGreatDoorQFitTells3
import Derived.Test.YtglekfgoadehbaaGreatDoorProg
import Derived.OpenShut
set_option linter.unusedSimpArgs false
set_option linter.unusedVariables false
section
/- What the package span's functions compute: in, runs, over, Low. -/
namespace Go.Proofs.YtglekfgoadehbaaGreatDoor.V
open Go Go.Proofs
set_option maxRecDepth 100000
set_option maxHeartbeats 4000000
theorem MinI_v (x : Int) (r : List Int) (hr : r.length ≤ 1000000000) (t : Tok) : VPure Tryz.prog 98 [.sl ((x :: r).map num) t] (num (r.foldl min x)) := by
  obtain ⟨l, hl⟩ : ∃ l, x :: r = l := ⟨_, rfl⟩
  have h0 : l.getD 0 default = x := by rw [← hl]; rfl
  have hs : ∀ k, k < r.length → l.getD (k + 1) default = r[k]! := fun k hk => by rw [← hl]; simp [List.getD_eq_getElem?_getD, List.getElem?_eq_getElem hk]
  have hlen : (l.length : Int) = r.length + 1 := by rw [← hl]; simp
  rw [hl]
  have HS := Hid.mk hs
  clear hl hs
  refine VPure.of v_slices_Min_int64_int64_ok (Nat.le_of_ble_eq_true rfl) (fun Z st => ?_)
  simp only [v_slices_Min_int64_int64, ↓vD, vU, ↓vMd, vMu, VE.ev, VE.evs, retvs, tupOf, grab, vfill, vbsl, eqCells, eqCell, veqs, veqs1, vmnx, AV.isCell, AV.isUndef, Nat.reduceEqDiff, Nat.reduceAdd, Nat.reduceSub, Nat.reduceLeDiff, Nat.reduceLT, reduceIte, reduceCtorEq, Nat.reduceBEq, k_app, k_slc1]
  (repeat' (first | (simp (config := { maxDischargeDepth := 16 }) only [*, num, vX, Int.reduceLE, Int.reduceLT, Int.reduceGE, Int.reduceGT, Int.reduceBEq, Int.reduceBNe, Int.reduceAdd, Int.reduceSub, Int.reduceMul, Int.reduceNeg, ↓vD, vU, ↓vMd, vMu, VE.ev, VE.evs, retvs, tupOf, grab, vfill, vbsl, eqCells, eqCell, veqs, veqs1, vmnx, AV.isCell, AV.isUndef, Nat.reduceEqDiff, Nat.reduceAdd, Nat.reduceSub, Nat.reduceLeDiff, Nat.reduceLT, reduceIte, reduceCtorEq, Nat.reduceBEq]) | (simp (disch := first | assumption | omega | exact Seg.len _ | exact Vec.len _ | exact Leg.len _ | exact num_len _ | exact rowA_len _ | exact rowA_len | exact rowT_len _ | exact rowT_len | exact Seg.len | exact Vec.len | exact Leg.len | exact num_len | exact AV.slen _ _ | rfl) only [num, vP]) | (with_reducible (first | refine gsnd (fun _ => ?_) (fun _ => ?_) | refine csnd (fun _ => ?_) (fun _ => ?_) | refine gsd (fun _ => ?_) (fun _ => ?_) | refine csd (fun _ => ?_) (fun _ => ?_) | refine gsn (fun _ => ?_) (fun _ => ?_) | refine csn (fun _ => ?_) (fun _ => ?_))) | (with_reducible refine gs (fun _ => ?_) (fun _ => ?_)) | (with_reducible refine cs_ (fun _ => ?_) (fun _ => ?_)) | (with_reducible refine objQ_i (fun _ _ => ?_); (repeat (with_reducible refine imp_i (fun _ => ?_)))) | ((try with_reducible refine appK_a ?_); first | (with_reducible refine appD_F (by refine ⟨?_, ?_, ?_, ?_⟩ <;> (first | assumption | omega | exact St.has_add (by assumption) | (simp only [ins_has]; exact St.has_add (by assumption)) | (simp only [ins_has, fresh_ins, kill_ins, add_ins] at *; exact St.has_add (by assumption)) | (simp only [*, ins_has, has_full, St.has_add]; done) | (simp [-List.map_take, -List.map_drop, or_imp, forall_and, Seg.a, Vec.a, Leg.a, num, okEl, cells_agg, cells_int, cells_sl, cells_bool, AV.isCell]; done) | (simp; omega))) (fun _ _ => ?_)) | (with_reducible refine appD_V (by refine ⟨?_, ?_, ?_, ?_, ?_⟩ <;> (first | assumption | omega | exact St.has_add (by assumption) | (simp only [ins_has]; exact St.has_add (by assumption)) | (simp only [ins_has, fresh_ins, kill_ins, add_ins] at *; exact St.has_add (by assumption)) | (simp only [*, ins_has, has_full, St.has_add]; done) | (simp [-List.map_take, -List.map_drop, or_imp, forall_and, Seg.a, Vec.a, Leg.a, num, okEl, cells_agg, cells_int, cells_sl, cells_bool, AV.isCell]; done) | (simp; omega))) (fun _ _ => ?_))) | (with_reducible refine freshQ_i (fun _ _ => ?_)) | (with_reducible refine nilQ_i (fun _ _ => ?_))))
  refine loopp_of (len := r.length) (by simp only [asgL, dsts, List.cons_append, List.nil_append, List.append_nil]; rfl) (by simp only [noR, Bool.and_true, Bool.and_false]; rfl) (by omega) (fun k fr => fr.t 4 = .int .i64 ((k : Int) + 1) ∧ fr.t 3 = .int .i64 ((r.take k).foldl min x)) ?_ ?_ ?_
  · simp [↓vD, vU, ↓vMd, vMu, VE.ev, VE.evs, retvs, tupOf, grab, vfill, vbsl, eqCells, eqCell, veqs, veqs1, vmnx, AV.isCell, AV.isUndef, Nat.reduceEqDiff, Nat.reduceAdd, Nat.reduceSub, Nat.reduceLeDiff, Nat.reduceLT, reduceIte, reduceCtorEq, Nat.reduceBEq, k_app, k_slc1]
  · rintro k fr hk hw hfr hd ⟨h4, h3⟩
    have hg := HS.out k hk
    obtain ⟨y, hy⟩ : ∃ y, r[k]! = y := ⟨_, rfl⟩
    rw [hy] at hg
    have hfold : (r.take (k + 1)).foldl min x = min ((r.take k).foldl min x) y := by
      rw [List.take_add_one, List.getElem?_eq_getElem hk, List.foldl_append, ← hy, getElem!_pos r k hk]; rfl
    have hw2 : IntKind.i64.wrap ((k : Int) + 1 + 1) = (k : Int) + 1 + 1 := wrap_i64 _ (by omega) (by omega)
    (repeat' (first | (simp (config := { maxDischargeDepth := 16 }) only [*, num, toNat_succ, vmin2, vX, Int.reduceLE, Int.reduceLT, Int.reduceGE, Int.reduceGT, Int.reduceBEq, Int.reduceBNe, Int.reduceAdd, Int.reduceSub, Int.reduceMul, Int.reduceNeg, ↓vD, vU, ↓vMd, vMu, VE.ev, VE.evs, retvs, tupOf, grab, vfill, vbsl, eqCells, eqCell, veqs, veqs1, vmnx, AV.isCell, AV.isUndef, Nat.reduceEqDiff, Nat.reduceAdd, Nat.reduceSub, Nat.reduceLeDiff, Nat.reduceLT, reduceIte, reduceCtorEq, Nat.reduceBEq]) | (simp (disch := first | assumption | omega | exact Seg.len _ | exact Vec.len _ | exact Leg.len _ | exact num_len _ | exact rowA_len _ | exact rowA_len | exact rowT_len _ | exact rowT_len | exact Seg.len | exact Vec.len | exact Leg.len | exact num_len | exact AV.slen _ _ | rfl) only [num, toNat_succ, vmin2, vP]) | (with_reducible (first | refine gsnd (fun _ => ?_) (fun _ => ?_) | refine csnd (fun _ => ?_) (fun _ => ?_) | refine gsd (fun _ => ?_) (fun _ => ?_) | refine csd (fun _ => ?_) (fun _ => ?_) | refine gsn (fun _ => ?_) (fun _ => ?_) | refine csn (fun _ => ?_) (fun _ => ?_))) | (with_reducible refine gs (fun _ => ?_) (fun _ => ?_)) | (with_reducible refine cs_ (fun _ => ?_) (fun _ => ?_)) | (with_reducible refine objQ_i (fun _ _ => ?_); (repeat (with_reducible refine imp_i (fun _ => ?_)))) | ((try with_reducible refine appK_a ?_); first | (with_reducible refine appD_F (by refine ⟨?_, ?_, ?_, ?_⟩ <;> (first | assumption | omega | exact St.has_add (by assumption) | (simp only [ins_has]; exact St.has_add (by assumption)) | (simp only [ins_has, fresh_ins, kill_ins, add_ins] at *; exact St.has_add (by assumption)) | (simp only [*, ins_has, has_full, St.has_add]; done) | (simp [-List.map_take, -List.map_drop, or_imp, forall_and, Seg.a, Vec.a, Leg.a, num, okEl, cells_agg, cells_int, cells_sl, cells_bool, AV.isCell]; done) | (simp; omega))) (fun _ _ => ?_)) | (with_reducible refine appD_V (by refine ⟨?_, ?_, ?_, ?_, ?_⟩ <;> (first | assumption | omega | exact St.has_add (by assumption) | (simp only [ins_has]; exact St.has_add (by assumption)) | (simp only [ins_has, fresh_ins, kill_ins, add_ins] at *; exact St.has_add (by assumption)) | (simp only [*, ins_has, has_full, St.has_add]; done) | (simp [-List.map_take, -List.map_drop, or_imp, forall_and, Seg.a, Vec.a, Leg.a, num, okEl, cells_agg, cells_int, cells_sl, cells_bool, AV.isCell]; done) | (simp; omega))) (fun _ _ => ?_))) | (with_reducible refine freshQ_i (fun _ _ => ?_)) | (with_reducible refine nilQ_i (fun _ _ => ?_))))
  · rintro fr hfr hd ⟨h4, h3⟩
    rw [List.take_length] at h3
    (repeat' (first | (simp (config := { maxDischargeDepth := 16 }) only [*, num, vX, Int.reduceLE, Int.reduceLT, Int.reduceGE, Int.reduceGT, Int.reduceBEq, Int.reduceBNe, Int.reduceAdd, Int.reduceSub, Int.reduceMul, Int.reduceNeg, ↓vD, vU, ↓vMd, vMu, VE.ev, VE.evs, retvs, tupOf, grab, vfill, vbsl, eqCells, eqCell, veqs, veqs1, vmnx, AV.isCell, AV.isUndef, Nat.reduceEqDiff, Nat.reduceAdd, Nat.reduceSub, Nat.reduceLeDiff, Nat.reduceLT, reduceIte, reduceCtorEq, Nat.reduceBEq]) | (simp (disch := first | assumption | omega | exact Seg.len _ | exact Vec.len _ | exact Leg.len _ | exact num_len _ | exact rowA_len _ | exact rowA_len | exact rowT_len _ | exact rowT_len | exact Seg.len | exact Vec.len | exact Leg.len | exact num_len | exact AV.slen _ _ | rfl) only [num, vP]) | (with_reducible (first | refine gsnd (fun _ => ?_) (fun _ => ?_) | refine csnd (fun _ => ?_) (fun _ => ?_) | refine gsd (fun _ => ?_) (fun _ => ?_) | refine csd (fun _ => ?_) (fun _ => ?_) | refine gsn (fun _ => ?_) (fun _ => ?_) | refine csn (fun _ => ?_) (fun _ => ?_))) | (with_reducible refine gs (fun _ => ?_) (fun _ => ?_)) | (with_reducible refine cs_ (fun _ => ?_) (fun _ => ?_)) | (with_reducible refine objQ_i (fun _ _ => ?_); (repeat (with_reducible refine imp_i (fun _ => ?_)))) | ((try with_reducible refine appK_a ?_); first | (with_reducible refine appD_F (by refine ⟨?_, ?_, ?_, ?_⟩ <;> (first | assumption | omega | exact St.has_add (by assumption) | (simp only [ins_has]; exact St.has_add (by assumption)) | (simp only [ins_has, fresh_ins, kill_ins, add_ins] at *; exact St.has_add (by assumption)) | (simp only [*, ins_has, has_full, St.has_add]; done) | (simp [-List.map_take, -List.map_drop, or_imp, forall_and, Seg.a, Vec.a, Leg.a, num, okEl, cells_agg, cells_int, cells_sl, cells_bool, AV.isCell]; done) | (simp; omega))) (fun _ _ => ?_)) | (with_reducible refine appD_V (by refine ⟨?_, ?_, ?_, ?_, ?_⟩ <;> (first | assumption | omega | exact St.has_add (by assumption) | (simp only [ins_has]; exact St.has_add (by assumption)) | (simp only [ins_has, fresh_ins, kill_ins, add_ins] at *; exact St.has_add (by assumption)) | (simp only [*, ins_has, has_full, St.has_add]; done) | (simp [-List.map_take, -List.map_drop, or_imp, forall_and, Seg.a, Vec.a, Leg.a, num, okEl, cells_agg, cells_int, cells_sl, cells_bool, AV.isCell]; done) | (simp; omega))) (fun _ _ => ?_))) | (with_reducible refine freshQ_i (fun _ _ => ?_)) | (with_reducible refine nilQ_i (fun _ _ => ?_))))
theorem MaxI_v (x : Int) (r : List Int) (hr : r.length ≤ 1000000000) (t : Tok) : VPure Tryz.prog 99 [.sl ((x :: r).map num) t] (num (r.foldl max x)) := by
  obtain ⟨l, hl⟩ : ∃ l, x :: r = l := ⟨_, rfl⟩
  have h0 : l.getD 0 default = x := by rw [← hl]; rfl
  have hs : ∀ k, k < r.length → l.getD (k + 1) default = r[k]! := fun k hk => by rw [← hl]; simp [List.getD_eq_getElem?_getD, List.getElem?_eq_getElem hk]
  have hlen : (l.length : Int) = r.length + 1 := by rw [← hl]; simp
  rw [hl]
  have HS := Hid.mk hs
  clear hl hs
  refine VPure.of v_slices_Max_int64_int64_ok (Nat.le_of_ble_eq_true rfl) (fun Z st => ?_)
  simp only [v_slices_Max_int64_int64, ↓vD, vU, ↓vMd, vMu, VE.ev, VE.evs, retvs, tupOf, grab, vfill, vbsl, eqCells, eqCell, veqs, veqs1, vmnx, AV.isCell, AV.isUndef, Nat.reduceEqDiff, Nat.reduceAdd, Nat.reduceSub, Nat.reduceLeDiff, Nat.reduceLT, reduceIte, reduceCtorEq, Nat.reduceBEq, k_app, k_slc1]
  (repeat' (first | (simp (config := { maxDischargeDepth := 16 }) only [*, num, vX, Int.reduceLE, Int.reduceLT, Int.reduceGE, Int.reduceGT, Int.reduceBEq, Int.reduceBNe, Int.reduceAdd, Int.reduceSub, Int.reduceMul, Int.reduceNeg, ↓vD, vU, ↓vMd, vMu, VE.ev, VE.evs, retvs, tupOf, grab, vfill, vbsl, eqCells, eqCell, veqs, veqs1, vmnx, AV.isCell, AV.isUndef, Nat.reduceEqDiff, Nat.reduceAdd, Nat.reduceSub, Nat.reduceLeDiff, Nat.reduceLT, reduceIte, reduceCtorEq, Nat.reduceBEq]) | (simp (disch := first | assumption | omega | exact Seg.len _ | exact Vec.len _ | exact Leg.len _ | exact num_len _ | exact rowA_len _ | exact rowA_len | exact rowT_len _ | exact rowT_len | exact Seg.len | exact Vec.len | exact Leg.len | exact num_len | exact AV.slen _ _ | rfl) only [num, vP]) | (with_reducible (first | refine gsnd (fun _ => ?_) (fun _ => ?_) | refine csnd (fun _ => ?_) (fun _ => ?_) | refine gsd (fun _ => ?_) (fun _ => ?_) | refine csd (fun _ => ?_) (fun _ => ?_) | refine gsn (fun _ => ?_) (fun _ => ?_) | refine csn (fun _ => ?_) (fun _ => ?_))) | (with_reducible refine gs (fun _ => ?_) (fun _ => ?_)) | (with_reducible refine cs_ (fun _ => ?_) (fun _ => ?_)) | (with_reducible refine objQ_i (fun _ _ => ?_); (repeat (with_reducible refine imp_i (fun _ => ?_)))) | ((try with_reducible refine appK_a ?_); first | (with_reducible refine appD_F (by refine ⟨?_, ?_, ?_, ?_⟩ <;> (first | assumption | omega | exact St.has_add (by assumption) | (simp only [ins_has]; exact St.has_add (by assumption)) | (simp only [ins_has, fresh_ins, kill_ins, add_ins] at *; exact St.has_add (by assumption)) | (simp only [*, ins_has, has_full, St.has_add]; done) | (simp [-List.map_take, -List.map_drop, or_imp, forall_and, Seg.a, Vec.a, Leg.a, num, okEl, cells_agg, cells_int, cells_sl, cells_bool, AV.isCell]; done) | (simp; omega))) (fun _ _ => ?_)) | (with_reducible refine appD_V (by refine ⟨?_, ?_, ?_, ?_, ?_⟩ <;> (first | assumption | omega | exact St.has_add (by assumption) | (simp only [ins_has]; exact St.has_add (by assumption)) | (simp only [ins_has, fresh_ins, kill_ins, add_ins] at *; exact St.has_add (by assumption)) | (simp only [*, ins_has, has_full, St.has_add]; done) | (simp [-List.map_take, -List.map_drop, or_imp, forall_and, Seg.a, Vec.a, Leg.a, num, okEl, cells_agg, cells_int, cells_sl, cells_bool, AV.isCell]; done) | (simp; omega))) (fun _ _ => ?_))) | (with_reducible refine freshQ_i (fun _ _ => ?_)) | (with_reducible refine nilQ_i (fun _ _ => ?_))))
  refine loopp_of (len := r.length) (by simp only [asgL, dsts, List.cons_append, List.nil_append, List.append_nil]; rfl) (by simp only [noR, Bool.and_true, Bool.and_false]; rfl) (by omega) (fun k fr => fr.t 4 = .int .i64 ((k : Int) + 1) ∧ fr.t 3 = .int .i64 ((r.take k).foldl max x)) ?_ ?_ ?_
  · simp [↓vD, vU, ↓vMd, vMu, VE.ev, VE.evs, retvs, tupOf, grab, vfill, vbsl, eqCells, eqCell, veqs, veqs1, vmnx, AV.isCell, AV.isUndef, Nat.reduceEqDiff, Nat.reduceAdd, Nat.reduceSub, Nat.reduceLeDiff, Nat.reduceLT, reduceIte, reduceCtorEq, Nat.reduceBEq, k_app, k_slc1]
  · rintro k fr hk hw hfr hd ⟨h4, h3⟩
    have hg := HS.out k hk
    obtain ⟨y, hy⟩ : ∃ y, r[k]! = y := ⟨_, rfl⟩
    rw [hy] at hg
    have hfold : (r.take (k + 1)).foldl max x = max ((r.take k).foldl max x) y := by
      rw [List.take_add_one, List.getElem?_eq_getElem hk, List.foldl_append, ← hy, getElem!_pos r k hk]; rfl
    have hw2 : IntKind.i64.wrap ((k : Int) + 1 + 1) = (k : Int) + 1 + 1 := wrap_i64 _ (by omega) (by omega)
    (repeat' (first | (simp (config := { maxDischargeDepth := 16 }) only [*, num, toNat_succ, vmax2, vX, Int.reduceLE, Int.reduceLT, Int.reduceGE, Int.reduceGT, Int.reduceBEq, Int.reduceBNe, Int.reduceAdd, Int.reduceSub, Int.reduceMul, Int.reduceNeg, ↓vD, vU, ↓vMd, vMu, VE.ev, VE.evs, retvs, tupOf, grab, vfill, vbsl, eqCells, eqCell, veqs, veqs1, vmnx, AV.isCell, AV.isUndef, Nat.reduceEqDiff, Nat.reduceAdd, Nat.reduceSub, Nat.reduceLeDiff, Nat.reduceLT, reduceIte, reduceCtorEq, Nat.reduceBEq]) | (simp (disch := first | assumption | omega | exact Seg.len _ | exact Vec.len _ | exact Leg.len _ | exact num_len _ | exact rowA_len _ | exact rowA_len | exact rowT_len _ | exact rowT_len | exact Seg.len | exact Vec.len | exact Leg.len | exact num_len | exact AV.slen _ _ | rfl) only [num, toNat_succ, vmax2, vP]) | (with_reducible (first | refine gsnd (fun _ => ?_) (fun _ => ?_) | refine csnd (fun _ => ?_) (fun _ => ?_) | refine gsd (fun _ => ?_) (fun _ => ?_) | refine csd (fun _ => ?_) (fun _ => ?_) | refine gsn (fun _ => ?_) (fun _ => ?_) | refine csn (fun _ => ?_) (fun _ => ?_))) | (with_reducible refine gs (fun _ => ?_) (fun _ => ?_)) | (with_reducible refine cs_ (fun _ => ?_) (fun _ => ?_)) | (with_reducible refine objQ_i (fun _ _ => ?_); (repeat (with_reducible refine imp_i (fun _ => ?_)))) | ((try with_reducible refine appK_a ?_); first | (with_reducible refine appD_F (by refine ⟨?_, ?_, ?_, ?_⟩ <;> (first | assumption | omega | exact St.has_add (by assumption) | (simp only [ins_has]; exact St.has_add (by assumption)) | (simp only [ins_has, fresh_ins, kill_ins, add_ins] at *; exact St.has_add (by assumption)) | (simp only [*, ins_has, has_full, St.has_add]; done) | (simp [-List.map_take, -List.map_drop, or_imp, forall_and, Seg.a, Vec.a, Leg.a, num, okEl, cells_agg, cells_int, cells_sl, cells_bool, AV.isCell]; done) | (simp; omega))) (fun _ _ => ?_)) | (with_reducible refine appD_V (by refine ⟨?_, ?_, ?_, ?_, ?_⟩ <;> (first | assumption | omega | exact St.has_add (by assumption) | (simp only [ins_has]; exact St.has_add (by assumption)) | (simp only [ins_has, fresh_ins, kill_ins, add_ins] at *; exact St.has_add (by assumption)) | (simp only [*, ins_has, has_full, St.has_add]; done) | (simp [-List.map_take, -List.map_drop, or_imp, forall_and, Seg.a, Vec.a, Leg.a, num, okEl, cells_agg, cells_int, cells_sl, cells_bool, AV.isCell]; done) | (simp; omega))) (fun _ _ => ?_))) | (with_reducible refine freshQ_i (fun _ _ => ?_)) | (with_reducible refine nilQ_i (fun _ _ => ?_))))
  · rintro fr hfr hd ⟨h4, h3⟩
    rw [List.take_length] at h3
    (repeat' (first | (simp (config := { maxDischargeDepth := 16 }) only [*, num, vX, Int.reduceLE, Int.reduceLT, Int.reduceGE, Int.reduceGT, Int.reduceBEq, Int.reduceBNe, Int.reduceAdd, Int.reduceSub, Int.reduceMul, Int.reduceNeg, ↓vD, vU, ↓vMd, vMu, VE.ev, VE.evs, retvs, tupOf, grab, vfill, vbsl, eqCells, eqCell, veqs, veqs1, vmnx, AV.isCell, AV.isUndef, Nat.reduceEqDiff, Nat.reduceAdd, Nat.reduceSub, Nat.reduceLeDiff, Nat.reduceLT, reduceIte, reduceCtorEq, Nat.reduceBEq]) | (simp (disch := first | assumption | omega | exact Seg.len _ | exact Vec.len _ | exact Leg.len _ | exact num_len _ | exact rowA_len _ | exact rowA_len | exact rowT_len _ | exact rowT_len | exact Seg.len | exact Vec.len | exact Leg.len | exact num_len | exact AV.slen _ _ | rfl) only [num, vP]) | (with_reducible (first | refine gsnd (fun _ => ?_) (fun _ => ?_) | refine csnd (fun _ => ?_) (fun _ => ?_) | refine gsd (fun _ => ?_) (fun _ => ?_) | refine csd (fun _ => ?_) (fun _ => ?_) | refine gsn (fun _ => ?_) (fun _ => ?_) | refine csn (fun _ => ?_) (fun _ => ?_))) | (with_reducible refine gs (fun _ => ?_) (fun _ => ?_)) | (with_reducible refine cs_ (fun _ => ?_) (fun _ => ?_)) | (with_reducible refine objQ_i (fun _ _ => ?_); (repeat (with_reducible refine imp_i (fun _ => ?_)))) | ((try with_reducible refine appK_a ?_); first | (with_reducible refine appD_F (by refine ⟨?_, ?_, ?_, ?_⟩ <;> (first | assumption | omega | exact St.has_add (by assumption) | (simp only [ins_has]; exact St.has_add (by assumption)) | (simp only [ins_has, fresh_ins, kill_ins, add_ins] at *; exact St.has_add (by assumption)) | (simp only [*, ins_has, has_full, St.has_add]; done) | (simp [-List.map_take, -List.map_drop, or_imp, forall_and, Seg.a, Vec.a, Leg.a, num, okEl, cells_agg, cells_int, cells_sl, cells_bool, AV.isCell]; done) | (simp; omega))) (fun _ _ => ?_)) | (with_reducible refine appD_V (by refine ⟨?_, ?_, ?_, ?_, ?_⟩ <;> (first | assumption | omega | exact St.has_add (by assumption) | (simp only [ins_has]; exact St.has_add (by assumption)) | (simp only [ins_has, fresh_ins, kill_ins, add_ins] at *; exact St.has_add (by assumption)) | (simp only [*, ins_has, has_full, St.has_add]; done) | (simp [-List.map_take, -List.map_drop, or_imp, forall_and, Seg.a, Vec.a, Leg.a, num, okEl, cells_agg, cells_int, cells_sl, cells_bool, AV.isCell]; done) | (simp; omega))) (fun _ _ => ?_))) | (with_reducible refine freshQ_i (fun _ _ => ?_)) | (with_reducible refine nilQ_i (fun _ _ => ?_))))
theorem in2_v (a z : Int) (t : Tok) : VPure Tryz.prog 83 [.sl [.int .i64 a, .int .i64 z] t] (.bool (decide (-1125899906842624 ≤ min a z) && decide (max a z ≤ 1125899906842624))) := by
  have h1 := MinI_v a [z] (by simp) t
  have h2 := MaxI_v a [z] (by simp) t
  simp only [List.map_cons, List.map_nil, num, List.foldl_cons, List.foldl_nil] at h1 h2
  refine VPure.of v_span_in_ok (Nat.le_of_ble_eq_true rfl) (fun Z st => ?_)
  simp only [v_span_in, ↓vD, vU, ↓vMd, vMu, VE.ev, VE.evs, retvs, tupOf, grab, vfill, vbsl, eqCells, eqCell, veqs, veqs1, vmnx, AV.isCell, AV.isUndef, Nat.reduceEqDiff, Nat.reduceAdd, Nat.reduceSub, Nat.reduceLeDiff, Nat.reduceLT, reduceIte, reduceCtorEq, Nat.reduceBEq, k_app, k_slc1]
  (repeat' (first | (simp (config := { maxDischargeDepth := 16 }) only [*, vX, Int.reduceLE, Int.reduceLT, Int.reduceGE, Int.reduceGT, Int.reduceBEq, Int.reduceBNe, Int.reduceAdd, Int.reduceSub, Int.reduceMul, Int.reduceNeg, ↓vD, vU, ↓vMd, vMu, VE.ev, VE.evs, retvs, tupOf, grab, vfill, vbsl, eqCells, eqCell, veqs, veqs1, vmnx, AV.isCell, AV.isUndef, Nat.reduceEqDiff, Nat.reduceAdd, Nat.reduceSub, Nat.reduceLeDiff, Nat.reduceLT, reduceIte, reduceCtorEq, Nat.reduceBEq]) | (simp (disch := first | assumption | omega | exact Seg.len _ | exact Vec.len _ | exact Leg.len _ | exact num_len _ | exact rowA_len _ | exact rowA_len | exact rowT_len _ | exact rowT_len | exact Seg.len | exact Vec.len | exact Leg.len | exact num_len | exact AV.slen _ _ | rfl) only [vP]) | (with_reducible (first | refine gsnd (fun _ => ?_) (fun _ => ?_) | refine csnd (fun _ => ?_) (fun _ => ?_) | refine gsd (fun _ => ?_) (fun _ => ?_) | refine csd (fun _ => ?_) (fun _ => ?_) | refine gsn (fun _ => ?_) (fun _ => ?_) | refine csn (fun _ => ?_) (fun _ => ?_))) | (with_reducible refine gs (fun _ => ?_) (fun _ => ?_)) | (with_reducible refine cs_ (fun _ => ?_) (fun _ => ?_)) | (with_reducible refine objQ_i (fun _ _ => ?_); (repeat (with_reducible refine imp_i (fun _ => ?_)))) | ((try with_reducible refine appK_a ?_); first | (with_reducible refine appD_F (by refine ⟨?_, ?_, ?_, ?_⟩ <;> (first | assumption | omega | exact St.has_add (by assumption) | (simp only [ins_has]; exact St.has_add (by assumption)) | (simp only [ins_has, fresh_ins, kill_ins, add_ins] at *; exact St.has_add (by assumption)) | (simp only [*, ins_has, has_full, St.has_add]; done) | (simp [-List.map_take, -List.map_drop, or_imp, forall_and, Seg.a, Vec.a, Leg.a, num, okEl, cells_agg, cells_int, cells_sl, cells_bool, AV.isCell]; done) | (simp; omega))) (fun _ _ => ?_)) | (with_reducible refine appD_V (by refine ⟨?_, ?_, ?_, ?_, ?_⟩ <;> (first | assumption | omega | exact St.has_add (by assumption) | (simp only [ins_has]; exact St.has_add (by assumption)) | (simp only [ins_has, fresh_ins, kill_ins, add_ins] at *; exact St.has_add (by assumption)) | (simp only [*, ins_has, has_full, St.has_add]; done) | (simp [-List.map_take, -List.map_drop, or_imp, forall_and, Seg.a, Vec.a, Leg.a, num, okEl, cells_agg, cells_int, cells_sl, cells_bool, AV.isCell]; done) | (simp; omega))) (fun _ _ => ?_))) | (with_reducible refine freshQ_i (fun _ _ => ?_)) | (with_reducible refine nilQ_i (fun _ _ => ?_)) | (with_reducible first | refine callH_use (h1) ?_ | refine pureQ_use (h1) ?_) | (with_reducible first | refine callH_use (h2) ?_ | refine pureQ_use (h2) ?_)))
  (all_goals (first | rfl | (simp_all; done) | (simp_all <;> omega)))
def runA (q : Vec × Int) : AV := .agg [.int .i64 q.1.m, .int .i64 q.1.c, .int .i64 q.2]
theorem runs_c (f : List Seg) (a z : Int) (t : Tok) : VPure Tryz.prog 84 [.sl (f.map Seg.a) t, num a, num z] (.clo 100 [] [.iptr (num a) 0, .iptr (.sl (f.map Seg.a) t) 0, .iptr (num z) 0]) := fun Z st => by
  have h : VCalls Tryz.prog Z 84 [.sl (f.map Seg.a) t, num a, num z] st (fun r s => ∃ bf ba bz, st.objs bf = none ∧ st.objs ba = none ∧ st.objs bz = none ∧ ¬ ba = bf ∧ ¬ bz = bf ∧ ¬ bz = ba ∧ r = .clo 100 [] [.ptr ba 0, .ptr bf 0, .ptr bz 0] ∧
      s = ((st.ins bf (.cells [.sl (f.map Seg.a) t])).ins ba (.cells [.int .i64 a])).ins bz (.cells [.int .i64 z])) := by
    refine VCalls.of v_span_runs_ok (Nat.le_of_ble_eq_true rfl) ?_
    simp only [v_span_runs, ↓vD, vU, ↓vMd, vMu, VE.ev, VE.evs, retvs, tupOf, grab, vfill, vbsl, eqCells, eqCell, veqs, veqs1, vmnx, AV.isCell, AV.isUndef, Nat.reduceEqDiff, Nat.reduceAdd, Nat.reduceSub, Nat.reduceLeDiff, Nat.reduceLT, reduceIte, reduceCtorEq, Nat.reduceBEq, k_app, k_slc1]
    (repeat' (first | (simp (config := { maxDischargeDepth := 16 }) only [*, num, vX, Int.reduceLE, Int.reduceLT, Int.reduceGE, Int.reduceGT, Int.reduceBEq, Int.reduceBNe, Int.reduceAdd, Int.reduceSub, Int.reduceMul, Int.reduceNeg, ↓vD, vU, ↓vMd, vMu, VE.ev, VE.evs, retvs, tupOf, grab, vfill, vbsl, eqCells, eqCell, veqs, veqs1, vmnx, AV.isCell, AV.isUndef, Nat.reduceEqDiff, Nat.reduceAdd, Nat.reduceSub, Nat.reduceLeDiff, Nat.reduceLT, reduceIte, reduceCtorEq, Nat.reduceBEq]) | (simp (disch := first | assumption | omega | exact Seg.len _ | exact Vec.len _ | exact Leg.len _ | exact num_len _ | exact rowA_len _ | exact rowA_len | exact rowT_len _ | exact rowT_len | exact Seg.len | exact Vec.len | exact Leg.len | exact num_len | exact AV.slen _ _ | rfl) only [num, vP]) | (with_reducible (first | refine gsnd (fun _ => ?_) (fun _ => ?_) | refine csnd (fun _ => ?_) (fun _ => ?_) | refine gsd (fun _ => ?_) (fun _ => ?_) | refine csd (fun _ => ?_) (fun _ => ?_) | refine gsn (fun _ => ?_) (fun _ => ?_) | refine csn (fun _ => ?_) (fun _ => ?_))) | (with_reducible refine gs (fun _ => ?_) (fun _ => ?_)) | (with_reducible refine cs_ (fun _ => ?_) (fun _ => ?_)) | (with_reducible refine objQ_i (fun _ _ => ?_); (repeat (with_reducible refine imp_i (fun _ => ?_)))) | ((try with_reducible refine appK_a ?_); first | (with_reducible refine appD_F (by refine ⟨?_, ?_, ?_, ?_⟩ <;> (first | assumption | omega | exact St.has_add (by assumption) | (simp only [ins_has]; exact St.has_add (by assumption)) | (simp only [ins_has, fresh_ins, kill_ins, add_ins] at *; exact St.has_add (by assumption)) | (simp only [*, ins_has, has_full, St.has_add]; done) | (simp [-List.map_take, -List.map_drop, or_imp, forall_and, Seg.a, Vec.a, Leg.a, num, okEl, cells_agg, cells_int, cells_sl, cells_bool, AV.isCell]; done) | (simp; omega))) (fun _ _ => ?_)) | (with_reducible refine appD_V (by refine ⟨?_, ?_, ?_, ?_, ?_⟩ <;> (first | assumption | omega | exact St.has_add (by assumption) | (simp only [ins_has]; exact St.has_add (by assumption)) | (simp only [ins_has, fresh_ins, kill_ins, add_ins] at *; exact St.has_add (by assumption)) | (simp only [*, ins_has, has_full, St.has_add]; done) | (simp [-List.map_take, -List.map_drop, or_imp, forall_and, Seg.a, Vec.a, Leg.a, num, okEl, cells_agg, cells_int, cells_sl, cells_bool, AV.isCell]; done) | (simp; omega))) (fun _ _ => ?_))) | (with_reducible refine freshQ_i (fun _ _ => ?_)) | (with_reducible refine nilQ_i (fun _ _ => ?_))))
    rename_i bf hf ba ha n1 n2 bz hz n3 n4 n5 n6
    exact ⟨_, St.le.refl _, bf, ba, bz, hf, ha, hz, n1, n3, n5, rfl, rfl⟩
  refine h.wk ?_
  rintro _ _ ⟨bf, ba, bz, hf, ha, hz, n1, n2, n3, rfl, rfl⟩
  have n1' : ¬ bf = ba := fun e => n1 e.symm
  have n2' : ¬ bf = bz := fun e => n2 e.symm
  have n3' : ¬ ba = bz := fun e => n3 e.symm
  (refine ⟨_, st, (Wk.fz _ (b := ba) (x := num a) (by first | (simp only [St.ins, St.del, *, if_true, if_false, eq_self, not_false_eq_true, ite_true, ite_false]; first | done | rfl) | (simp [St.ins, St.del, *]; done) | (simp [St.ins, St.del, *]; rfl)) (by first | rfl | simp [okEl, AV.cells, AV.isCell]) (by first | exact Nat.zero_lt_succ _ | simp [AV.cells]) _).trans ((Wk.fz _ (b := bf) (x := .sl (f.map Seg.a) t) (by first | (simp only [St.ins, St.del, *, if_true, if_false, eq_self, not_false_eq_true, ite_true, ite_false]; first | done | rfl) | (simp [St.ins, St.del, *]; done) | (simp [St.ins, St.del, *]; rfl)) (by first | rfl | simp [okEl, AV.cells, AV.isCell]) (by first | exact Nat.zero_lt_succ _ | simp [AV.cells]) _).trans ((Wk.fz _ (b := bz) (x := num z) (by first | (simp only [St.ins, St.del, *, if_true, if_false, eq_self, not_false_eq_true, ite_true, ite_false]; first | done | rfl) | (simp [St.ins, St.del, *]; done) | (simp [St.ins, St.del, *]; rfl)) (by first | rfl | simp [okEl, AV.cells, AV.isCell]) (by first | exact Nat.zero_lt_succ _ | simp [AV.cells]) _).trans (Wk.le (by (refine ⟨fun i o e => ?_, fun _ h => h⟩; revert e; simp only [St.ins, St.del, add_objs, kill_objs]; (repeat' split); all_goals (first | exact id | (intros; contradiction) | (intros; subst_vars; contradiction) | (intros; simp_all; done) | (intros; subst_vars; simp_all; done)))) _))), ?_⟩; simp only [AV.sub, AV.subL, *, if_true, if_false, eq_self, ite_true, ite_false])
  try exact ⟨trivial, trivial⟩
theorem runs_it (f : List Seg) (hn : f.length ≤ 1000000000) (a z : Int) (ha : -1125899906842624 ≤ a) (hz : z ≤ 1125899906842624) (haz : a < z) (t : Tok) : VIter Tryz.prog 100 [] [.iptr (num a) 0, .iptr (.sl (f.map Seg.a) t) 0, .iptr (num z) 0] ((runsF f a z).map fun b => [runA b]) := by
  intro Y l I E S0 h0 hy
  obtain ⟨L, hL⟩ : ∃ L, runsF f a z = L := ⟨_, rfl⟩
  simp only [hL, List.length_map, List.getElem_map] at hy ⊢
  have hAt := At_v f (by omega) t a
  obtain ⟨u0, hu0⟩ : ∃ u, atF f a = u := ⟨_, rfl⟩
  rw [hu0] at hAt
  have HL : Hid (L = runsGo a z f a u0) := ⟨by rw [← hL, ← hu0]; rfl⟩
  have HY : Hid (∀ k it r, L.drop k = it :: r → ∀ S, I k S → VYield Tryz.prog Y l [runA it] S (YY I E k)) := ⟨fun k it r h => by
    obtain ⟨hk, rfl, _⟩ := drop_cons h
    exact hy k hk⟩
  clear hL hu0 hy
  refine VCalls.of v_span_runs_1_ok (Nat.le_of_ble_eq_true rfl) ?_
  simp only [v_span_runs_1, List.nil_append, List.cons_append, ↓vD, vU, ↓vMd, vMu, VE.ev, VE.evs, retvs, tupOf, grab, vfill, vbsl, eqCells, eqCell, veqs, veqs1, vmnx, AV.isCell, AV.isUndef, Nat.reduceEqDiff, Nat.reduceAdd, Nat.reduceSub, Nat.reduceLeDiff, Nat.reduceLT, reduceIte, reduceCtorEq, Nat.reduceBEq, k_app, k_slc1]
  (repeat' (first | (simp (config := { maxDischargeDepth := 16 }) only [*, num, vX, Int.reduceLE, Int.reduceLT, Int.reduceGE, Int.reduceGT, Int.reduceBEq, Int.reduceBNe, Int.reduceAdd, Int.reduceSub, Int.reduceMul, Int.reduceNeg, ↓vD, vU, ↓vMd, vMu, VE.ev, VE.evs, retvs, tupOf, grab, vfill, vbsl, eqCells, eqCell, veqs, veqs1, vmnx, AV.isCell, AV.isUndef, Nat.reduceEqDiff, Nat.reduceAdd, Nat.reduceSub, Nat.reduceLeDiff, Nat.reduceLT, reduceIte, reduceCtorEq, Nat.reduceBEq]) | (simp (disch := first | assumption | omega | exact Seg.len _ | exact Vec.len _ | exact Leg.len _ | exact num_len _ | exact rowA_len _ | exact rowA_len | exact rowT_len _ | exact rowT_len | exact Seg.len | exact Vec.len | exact Leg.len | exact num_len | exact AV.slen _ _ | rfl) only [num, vP]) | (with_reducible (first | refine gsnd (fun _ => ?_) (fun _ => ?_) | refine csnd (fun _ => ?_) (fun _ => ?_) | refine gsd (fun _ => ?_) (fun _ => ?_) | refine csd (fun _ => ?_) (fun _ => ?_) | refine gsn (fun _ => ?_) (fun _ => ?_) | refine csn (fun _ => ?_) (fun _ => ?_))) | (with_reducible refine gs (fun _ => ?_) (fun _ => ?_)) | (with_reducible refine cs_ (fun _ => ?_) (fun _ => ?_)) | (with_reducible refine objQ_i (fun _ _ => ?_); (repeat (with_reducible refine imp_i (fun _ => ?_)))) | ((try with_reducible refine appK_a ?_); first | (with_reducible refine appD_F (by refine ⟨?_, ?_, ?_, ?_⟩ <;> (first | assumption | omega | exact St.has_add (by assumption) | (simp only [ins_has]; exact St.has_add (by assumption)) | (simp only [ins_has, fresh_ins, kill_ins, add_ins] at *; exact St.has_add (by assumption)) | (simp only [*, ins_has, has_full, St.has_add]; done) | (simp [-List.map_take, -List.map_drop, or_imp, forall_and, Seg.a, Vec.a, Leg.a, num, okEl, cells_agg, cells_int, cells_sl, cells_bool, AV.isCell]; done) | (simp; omega))) (fun _ _ => ?_)) | (with_reducible refine appD_V (by refine ⟨?_, ?_, ?_, ?_, ?_⟩ <;> (first | assumption | omega | exact St.has_add (by assumption) | (simp only [ins_has]; exact St.has_add (by assumption)) | (simp only [ins_has, fresh_ins, kill_ins, add_ins] at *; exact St.has_add (by assumption)) | (simp only [*, ins_has, has_full, St.has_add]; done) | (simp [-List.map_take, -List.map_drop, or_imp, forall_and, Seg.a, Vec.a, Leg.a, num, okEl, cells_agg, cells_int, cells_sl, cells_bool, AV.isCell]; done) | (simp; omega))) (fun _ _ => ?_))) | (with_reducible refine freshQ_i (fun _ _ => ?_)) | (with_reducible refine nilQ_i (fun _ _ => ?_)) | (with_reducible first | refine callH_use (hAt) ?_ | refine pureQ_use (hAt) ?_)))
  rename_i b6 h6
  refine loopf_of (len := f.length) (by simp only [asgL, dsts, List.cons_append, List.nil_append, List.append_nil]; rfl) (by simp only [noR, Bool.and_true, Bool.and_false]; rfl) (by omega) (fun k fr s => ∃ (j : Nat) (p : Int) (u : Vec) (S : St), s = S.ins b6 (.cells [.int .i64 u.m, .int .i64 u.c])
    ∧ fr.t 15 = .int .i64 k ∧ fr.t 5 = .int .i64 p ∧ I j S ∧ S.objs b6 = none ∧ j ≤ L.length ∧ (a ≤ p ∧ p ≤ z) ∧ Hid (L.drop j = runsGo a z (f.drop k) p u)) ?_ ?_ ?_
  · exact ⟨0, a, u0, S0, rfl, by simp [↓vD, vU, ↓vMd, vMu, VE.ev, VE.evs, retvs, tupOf, grab, vfill, vbsl, eqCells, eqCell, veqs, veqs1, vmnx, AV.isCell, AV.isUndef, Nat.reduceEqDiff, Nat.reduceAdd, Nat.reduceSub, Nat.reduceLeDiff, Nat.reduceLT, reduceIte, reduceCtorEq, Nat.reduceBEq, k_app, k_slc1], by simp [↓vD, vU, ↓vMd, vMu, VE.ev, VE.evs, retvs, tupOf, grab, vfill, vbsl, eqCells, eqCell, veqs, veqs1, vmnx, AV.isCell, AV.isUndef, Nat.reduceEqDiff, Nat.reduceAdd, Nat.reduceSub, Nat.reduceLeDiff, Nat.reduceLT, reduceIte, reduceCtorEq, Nat.reduceBEq, k_app, k_slc1], h0, h6, by omega, by omega, ⟨by rw [HL.out]; rfl⟩⟩
  · rintro k fr s hk hwr hfr hd ⟨j, p, u, S, rfl, h15, h5, hI, hS6, hj, hp, HK⟩
    obtain ⟨x, hx⟩ : ∃ x, f[k] = x := ⟨_, rfl⟩
    have hdr : f.drop k = x :: f.drop (k + 1) := by rw [List.drop_eq_getElem_cons hk, hx]
    have hK := HK.out
    rw [hdr, runsGo] at hK
    by_cases hskip : x.t ≤ a ∨ z ≤ x.t
    · have HN : Hid (L.drop j = runsGo a z (f.drop (k + 1)) p u) := ⟨by rw [hK, if_pos hskip]⟩
      clear hK hdr HK
      (repeat' (first | (simp (config := { maxDischargeDepth := 16 }) only [*, num, Seg.a, vX, Int.reduceLE, Int.reduceLT, Int.reduceGE, Int.reduceGT, Int.reduceBEq, Int.reduceBNe, Int.reduceAdd, Int.reduceSub, Int.reduceMul, Int.reduceNeg, ↓vD, vU, ↓vMd, vMu, VE.ev, VE.evs, retvs, tupOf, grab, vfill, vbsl, eqCells, eqCell, veqs, veqs1, vmnx, AV.isCell, AV.isUndef, Nat.reduceEqDiff, Nat.reduceAdd, Nat.reduceSub, Nat.reduceLeDiff, Nat.reduceLT, reduceIte, reduceCtorEq, Nat.reduceBEq]) | (simp (disch := first | assumption | omega | exact Seg.len _ | exact Vec.len _ | exact Leg.len _ | exact num_len _ | exact rowA_len _ | exact rowA_len | exact rowT_len _ | exact rowT_len | exact Seg.len | exact Vec.len | exact Leg.len | exact num_len | exact AV.slen _ _ | rfl) only [num, Seg.a, vP]) | (with_reducible (first | refine gsnd (fun _ => ?_) (fun _ => ?_) | refine csnd (fun _ => ?_) (fun _ => ?_) | refine gsd (fun _ => ?_) (fun _ => ?_) | refine csd (fun _ => ?_) (fun _ => ?_) | refine gsn (fun _ => ?_) (fun _ => ?_) | refine csn (fun _ => ?_) (fun _ => ?_))) | (with_reducible refine gs (fun _ => ?_) (fun _ => ?_)) | (with_reducible refine cs_ (fun _ => ?_) (fun _ => ?_)) | (with_reducible refine objQ_i (fun _ _ => ?_); (repeat (with_reducible refine imp_i (fun _ => ?_)))) | ((try with_reducible refine appK_a ?_); first | (with_reducible refine appD_F (by refine ⟨?_, ?_, ?_, ?_⟩ <;> (first | assumption | omega | exact St.has_add (by assumption) | (simp only [ins_has]; exact St.has_add (by assumption)) | (simp only [ins_has, fresh_ins, kill_ins, add_ins] at *; exact St.has_add (by assumption)) | (simp only [*, ins_has, has_full, St.has_add]; done) | (simp [-List.map_take, -List.map_drop, or_imp, forall_and, Seg.a, Vec.a, Leg.a, num, okEl, cells_agg, cells_int, cells_sl, cells_bool, AV.isCell]; done) | (simp; omega))) (fun _ _ => ?_)) | (with_reducible refine appD_V (by refine ⟨?_, ?_, ?_, ?_, ?_⟩ <;> (first | assumption | omega | exact St.has_add (by assumption) | (simp only [ins_has]; exact St.has_add (by assumption)) | (simp only [ins_has, fresh_ins, kill_ins, add_ins] at *; exact St.has_add (by assumption)) | (simp only [*, ins_has, has_full, St.has_add]; done) | (simp [-List.map_take, -List.map_drop, or_imp, forall_and, Seg.a, Vec.a, Leg.a, num, okEl, cells_agg, cells_int, cells_sl, cells_bool, AV.isCell]; done) | (simp; omega))) (fun _ _ => ?_))) | (with_reducible refine freshQ_i (fun _ _ => ?_)) | (with_reducible refine nilQ_i (fun _ _ => ?_))))
      all_goals first | exact ⟨_, by (refine ⟨fun i o e => ?_, fun _ h => h⟩; revert e; simp only [St.ins, St.del, add_objs, kill_objs]; (repeat' split); all_goals (first | exact id | (intros; contradiction) | (intros; subst_vars; contradiction) | (intros; simp_all; done) | (intros; subst_vars; simp_all; done))), j, p, u, S, rfl, rfl, hI, hS6, hj, hp, HN⟩ | omega
    · rw [if_neg hskip] at hK
      have HN : Hid (L.drop j = (u, x.t - p) :: runsGo a z (f.drop (k + 1)) x.t x.v) := ⟨hK⟩
      clear hK hdr HK
      (repeat' (first | (simp (config := { maxDischargeDepth := 16 }) only [*, num, Seg.a, vX, Int.reduceLE, Int.reduceLT, Int.reduceGE, Int.reduceGT, Int.reduceBEq, Int.reduceBNe, Int.reduceAdd, Int.reduceSub, Int.reduceMul, Int.reduceNeg, ↓vD, vU, ↓vMd, vMu, VE.ev, VE.evs, retvs, tupOf, grab, vfill, vbsl, eqCells, eqCell, veqs, veqs1, vmnx, AV.isCell, AV.isUndef, Nat.reduceEqDiff, Nat.reduceAdd, Nat.reduceSub, Nat.reduceLeDiff, Nat.reduceLT, reduceIte, reduceCtorEq, Nat.reduceBEq]) | (simp (disch := first | assumption | omega | exact Seg.len _ | exact Vec.len _ | exact Leg.len _ | exact num_len _ | exact rowA_len _ | exact rowA_len | exact rowT_len _ | exact rowT_len | exact Seg.len | exact Vec.len | exact Leg.len | exact num_len | exact AV.slen _ _ | rfl) only [num, Seg.a, vP]) | (with_reducible (first | refine gsnd (fun _ => ?_) (fun _ => ?_) | refine csnd (fun _ => ?_) (fun _ => ?_) | refine gsd (fun _ => ?_) (fun _ => ?_) | refine csd (fun _ => ?_) (fun _ => ?_) | refine gsn (fun _ => ?_) (fun _ => ?_) | refine csn (fun _ => ?_) (fun _ => ?_))) | (with_reducible refine gs (fun _ => ?_) (fun _ => ?_)) | (with_reducible refine cs_ (fun _ => ?_) (fun _ => ?_)) | (with_reducible refine objQ_i (fun _ _ => ?_); (repeat (with_reducible refine imp_i (fun _ => ?_)))) | ((try with_reducible refine appK_a ?_); first | (with_reducible refine appD_F (by refine ⟨?_, ?_, ?_, ?_⟩ <;> (first | assumption | omega | exact St.has_add (by assumption) | (simp only [ins_has]; exact St.has_add (by assumption)) | (simp only [ins_has, fresh_ins, kill_ins, add_ins] at *; exact St.has_add (by assumption)) | (simp only [*, ins_has, has_full, St.has_add]; done) | (simp [-List.map_take, -List.map_drop, or_imp, forall_and, Seg.a, Vec.a, Leg.a, num, okEl, cells_agg, cells_int, cells_sl, cells_bool, AV.isCell]; done) | (simp; omega))) (fun _ _ => ?_)) | (with_reducible refine appD_V (by refine ⟨?_, ?_, ?_, ?_, ?_⟩ <;> (first | assumption | omega | exact St.has_add (by assumption) | (simp only [ins_has]; exact St.has_add (by assumption)) | (simp only [ins_has, fresh_ins, kill_ins, add_ins] at *; exact St.has_add (by assumption)) | (simp only [*, ins_has, has_full, St.has_add]; done) | (simp [-List.map_take, -List.map_drop, or_imp, forall_and, Seg.a, Vec.a, Leg.a, num, okEl, cells_agg, cells_int, cells_sl, cells_bool, AV.isCell]; done) | (simp; omega))) (fun _ _ => ?_))) | (with_reducible refine freshQ_i (fun _ _ => ?_)) | (with_reducible refine nilQ_i (fun _ _ => ?_))))
      rename_i b8 h8 n86 n68
      refine yieldH_then (((HY.out j _ _ HN.out S hI).frame b6 _ hS6).frame b8 _ (by simp only [ins_objs, kill_objs, add_objs, *, if_false, if_true, not_false_eq_true, ite_some_none, and_self, and_true, true_and])) rfl ?_
      rintro _ _ ⟨_, ⟨s0, hyy, q6, rfl⟩, q8, rfl⟩
      obtain ⟨hj2, _, hd2⟩ := drop_cons HN.out
      have q8' : s0.objs b8 = none := by simpa only [ins_objs, n86, if_false] using q8
      rcases hyy with ⟨rfl, S', hI', hle'⟩ | ⟨rfl, S', hE', hle'⟩
      · have HN2 : Hid (L.drop (j + 1) = runsGo a z (f.drop (k + 1)) x.t x.v) := ⟨hd2⟩
        clear HN hd2
        (repeat' (first | (simp (config := { maxDischargeDepth := 16 }) only [*, num, Seg.a, vX, Int.reduceLE, Int.reduceLT, Int.reduceGE, Int.reduceGT, Int.reduceBEq, Int.reduceBNe, Int.reduceAdd, Int.reduceSub, Int.reduceMul, Int.reduceNeg, ↓vD, vU, ↓vMd, vMu, VE.ev, VE.evs, retvs, tupOf, grab, vfill, vbsl, eqCells, eqCell, veqs, veqs1, vmnx, AV.isCell, AV.isUndef, Nat.reduceEqDiff, Nat.reduceAdd, Nat.reduceSub, Nat.reduceLeDiff, Nat.reduceLT, reduceIte, reduceCtorEq, Nat.reduceBEq]) | (simp (disch := first | assumption | omega | exact Seg.len _ | exact Vec.len _ | exact Leg.len _ | exact num_len _ | exact rowA_len _ | exact rowA_len | exact rowT_len _ | exact rowT_len | exact Seg.len | exact Vec.len | exact Leg.len | exact num_len | exact AV.slen _ _ | rfl) only [num, Seg.a, vP]) | (with_reducible (first | refine gsnd (fun _ => ?_) (fun _ => ?_) | refine csnd (fun _ => ?_) (fun _ => ?_) | refine gsd (fun _ => ?_) (fun _ => ?_) | refine csd (fun _ => ?_) (fun _ => ?_) | refine gsn (fun _ => ?_) (fun _ => ?_) | refine csn (fun _ => ?_) (fun _ => ?_))) | (with_reducible refine gs (fun _ => ?_) (fun _ => ?_)) | (with_reducible refine cs_ (fun _ => ?_) (fun _ => ?_)) | (with_reducible refine objQ_i (fun _ _ => ?_); (repeat (with_reducible refine imp_i (fun _ => ?_)))) | ((try with_reducible refine appK_a ?_); first | (with_reducible refine appD_F (by refine ⟨?_, ?_, ?_, ?_⟩ <;> (first | assumption | omega | exact St.has_add (by assumption) | (simp only [ins_has]; exact St.has_add (by assumption)) | (simp only [ins_has, fresh_ins, kill_ins, add_ins] at *; exact St.has_add (by assumption)) | (simp only [*, ins_has, has_full, St.has_add]; done) | (simp [-List.map_take, -List.map_drop, or_imp, forall_and, Seg.a, Vec.a, Leg.a, num, okEl, cells_agg, cells_int, cells_sl, cells_bool, AV.isCell]; done) | (simp; omega))) (fun _ _ => ?_)) | (with_reducible refine appD_V (by refine ⟨?_, ?_, ?_, ?_, ?_⟩ <;> (first | assumption | omega | exact St.has_add (by assumption) | (simp only [ins_has]; exact St.has_add (by assumption)) | (simp only [ins_has, fresh_ins, kill_ins, add_ins] at *; exact St.has_add (by assumption)) | (simp only [*, ins_has, has_full, St.has_add]; done) | (simp [-List.map_take, -List.map_drop, or_imp, forall_and, Seg.a, Vec.a, Leg.a, num, okEl, cells_agg, cells_int, cells_sl, cells_bool, AV.isCell]; done) | (simp; omega))) (fun _ _ => ?_))) | (with_reducible refine freshQ_i (fun _ _ => ?_)) | (with_reducible refine nilQ_i (fun _ _ => ?_))))
        exact ⟨_, (St.le.ins hle' b6 _).trans (by (refine ⟨fun i o e => ?_, fun _ h => h⟩; revert e; simp only [St.ins, St.del, add_objs, kill_objs]; (repeat' split); all_goals (first | exact id | (intros; contradiction) | (intros; subst_vars; contradiction) | (intros; simp_all; done) | (intros; subst_vars; simp_all; done)))), j + 1, x.t, x.v, S', rfl, rfl, hI', hle'.none q6, by omega, by omega, HN2⟩
      · (repeat' (first | (simp (config := { maxDischargeDepth := 16 }) only [*, num, Seg.a, vX, Int.reduceLE, Int.reduceLT, Int.reduceGE, Int.reduceGT, Int.reduceBEq, Int.reduceBNe, Int.reduceAdd, Int.reduceSub, Int.reduceMul, Int.reduceNeg, ↓vD, vU, ↓vMd, vMu, VE.ev, VE.evs, retvs, tupOf, grab, vfill, vbsl, eqCells, eqCell, veqs, veqs1, vmnx, AV.isCell, AV.isUndef, Nat.reduceEqDiff, Nat.reduceAdd, Nat.reduceSub, Nat.reduceLeDiff, Nat.reduceLT, reduceIte, reduceCtorEq, Nat.reduceBEq]) | (simp (disch := first | assumption | omega | exact Seg.len _ | exact Vec.len _ | exact Leg.len _ | exact num_len _ | exact rowA_len _ | exact rowA_len | exact rowT_len _ | exact rowT_len | exact Seg.len | exact Vec.len | exact Leg.len | exact num_len | exact AV.slen _ _ | rfl) only [num, Seg.a, vP]) | (with_reducible (first | refine gsnd (fun _ => ?_) (fun _ => ?_) | refine csnd (fun _ => ?_) (fun _ => ?_) | refine gsd (fun _ => ?_) (fun _ => ?_) | refine csd (fun _ => ?_) (fun _ => ?_) | refine gsn (fun _ => ?_) (fun _ => ?_) | refine csn (fun _ => ?_) (fun _ => ?_))) | (with_reducible refine gs (fun _ => ?_) (fun _ => ?_)) | (with_reducible refine cs_ (fun _ => ?_) (fun _ => ?_)) | (with_reducible refine objQ_i (fun _ _ => ?_); (repeat (with_reducible refine imp_i (fun _ => ?_)))) | ((try with_reducible refine appK_a ?_); first | (with_reducible refine appD_F (by refine ⟨?_, ?_, ?_, ?_⟩ <;> (first | assumption | omega | exact St.has_add (by assumption) | (simp only [ins_has]; exact St.has_add (by assumption)) | (simp only [ins_has, fresh_ins, kill_ins, add_ins] at *; exact St.has_add (by assumption)) | (simp only [*, ins_has, has_full, St.has_add]; done) | (simp [-List.map_take, -List.map_drop, or_imp, forall_and, Seg.a, Vec.a, Leg.a, num, okEl, cells_agg, cells_int, cells_sl, cells_bool, AV.isCell]; done) | (simp; omega))) (fun _ _ => ?_)) | (with_reducible refine appD_V (by refine ⟨?_, ?_, ?_, ?_, ?_⟩ <;> (first | assumption | omega | exact St.has_add (by assumption) | (simp only [ins_has]; exact St.has_add (by assumption)) | (simp only [ins_has, fresh_ins, kill_ins, add_ins] at *; exact St.has_add (by assumption)) | (simp only [*, ins_has, has_full, St.has_add]; done) | (simp [-List.map_take, -List.map_drop, or_imp, forall_and, Seg.a, Vec.a, Leg.a, num, okEl, cells_agg, cells_int, cells_sl, cells_bool, AV.isCell]; done) | (simp; omega))) (fun _ _ => ?_))) | (with_reducible refine freshQ_i (fun _ _ => ?_)) | (with_reducible refine nilQ_i (fun _ _ => ?_))))
        exact ⟨_, St.le.refl _, S', .inr hE', hle'.trans (by (refine ⟨fun i o e => ?_, fun _ h => h⟩; revert e; simp only [St.ins, St.del, add_objs, kill_objs]; (repeat' split); all_goals (first | exact id | (intros; contradiction) | (intros; subst_vars; contradiction) | (intros; simp_all; done) | (intros; subst_vars; simp_all; done))))⟩
  · rintro fr s hfr hd ⟨j, p, u, S, rfl, h15, h5, hI, hS6, hj, hp, HK⟩
    rw [List.drop_length, runsGo] at HK
    (repeat' (first | (simp (config := { maxDischargeDepth := 16 }) only [*, num, Seg.a, vX, Int.reduceLE, Int.reduceLT, Int.reduceGE, Int.reduceGT, Int.reduceBEq, Int.reduceBNe, Int.reduceAdd, Int.reduceSub, Int.reduceMul, Int.reduceNeg, ↓vD, vU, ↓vMd, vMu, VE.ev, VE.evs, retvs, tupOf, grab, vfill, vbsl, eqCells, eqCell, veqs, veqs1, vmnx, AV.isCell, AV.isUndef, Nat.reduceEqDiff, Nat.reduceAdd, Nat.reduceSub, Nat.reduceLeDiff, Nat.reduceLT, reduceIte, reduceCtorEq, Nat.reduceBEq]) | (simp (disch := first | assumption | omega | exact Seg.len _ | exact Vec.len _ | exact Leg.len _ | exact num_len _ | exact rowA_len _ | exact rowA_len | exact rowT_len _ | exact rowT_len | exact Seg.len | exact Vec.len | exact Leg.len | exact num_len | exact AV.slen _ _ | rfl) only [num, Seg.a, vP]) | (with_reducible (first | refine gsnd (fun _ => ?_) (fun _ => ?_) | refine csnd (fun _ => ?_) (fun _ => ?_) | refine gsd (fun _ => ?_) (fun _ => ?_) | refine csd (fun _ => ?_) (fun _ => ?_) | refine gsn (fun _ => ?_) (fun _ => ?_) | refine csn (fun _ => ?_) (fun _ => ?_))) | (with_reducible refine gs (fun _ => ?_) (fun _ => ?_)) | (with_reducible refine cs_ (fun _ => ?_) (fun _ => ?_)) | (with_reducible refine objQ_i (fun _ _ => ?_); (repeat (with_reducible refine imp_i (fun _ => ?_)))) | ((try with_reducible refine appK_a ?_); first | (with_reducible refine appD_F (by refine ⟨?_, ?_, ?_, ?_⟩ <;> (first | assumption | omega | exact St.has_add (by assumption) | (simp only [ins_has]; exact St.has_add (by assumption)) | (simp only [ins_has, fresh_ins, kill_ins, add_ins] at *; exact St.has_add (by assumption)) | (simp only [*, ins_has, has_full, St.has_add]; done) | (simp [-List.map_take, -List.map_drop, or_imp, forall_and, Seg.a, Vec.a, Leg.a, num, okEl, cells_agg, cells_int, cells_sl, cells_bool, AV.isCell]; done) | (simp; omega))) (fun _ _ => ?_)) | (with_reducible refine appD_V (by refine ⟨?_, ?_, ?_, ?_, ?_⟩ <;> (first | assumption | omega | exact St.has_add (by assumption) | (simp only [ins_has]; exact St.has_add (by assumption)) | (simp only [ins_has, fresh_ins, kill_ins, add_ins] at *; exact St.has_add (by assumption)) | (simp only [*, ins_has, has_full, St.has_add]; done) | (simp [-List.map_take, -List.map_drop, or_imp, forall_and, Seg.a, Vec.a, Leg.a, num, okEl, cells_agg, cells_int, cells_sl, cells_bool, AV.isCell]; done) | (simp; omega))) (fun _ _ => ?_))) | (with_reducible refine freshQ_i (fun _ _ => ?_)) | (with_reducible refine nilQ_i (fun _ _ => ?_))))
    refine yieldH_then ((HY.out j _ _ HK.out S hI).frame b6 _ hS6) rfl ?_
    rintro _ _ ⟨s0, hyy, q6, rfl⟩
    obtain ⟨hj2, _, hd2⟩ := drop_cons HK.out
    have hjl : j + 1 = L.length := by have := List.drop_eq_nil_iff.1 hd2; omega
    rcases hyy with ⟨rfl, S', hI', hle'⟩ | ⟨rfl, S', hE', hle'⟩
    · rw [hjl] at hI'
      (repeat' (first | (simp (config := { maxDischargeDepth := 16 }) only [*, num, Seg.a, vX, Int.reduceLE, Int.reduceLT, Int.reduceGE, Int.reduceGT, Int.reduceBEq, Int.reduceBNe, Int.reduceAdd, Int.reduceSub, Int.reduceMul, Int.reduceNeg, ↓vD, vU, ↓vMd, vMu, VE.ev, VE.evs, retvs, tupOf, grab, vfill, vbsl, eqCells, eqCell, veqs, veqs1, vmnx, AV.isCell, AV.isUndef, Nat.reduceEqDiff, Nat.reduceAdd, Nat.reduceSub, Nat.reduceLeDiff, Nat.reduceLT, reduceIte, reduceCtorEq, Nat.reduceBEq]) | (simp (disch := first | assumption | omega | exact Seg.len _ | exact Vec.len _ | exact Leg.len _ | exact num_len _ | exact rowA_len _ | exact rowA_len | exact rowT_len _ | exact rowT_len | exact Seg.len | exact Vec.len | exact Leg.len | exact num_len | exact AV.slen _ _ | rfl) only [num, Seg.a, vP]) | (with_reducible (first | refine gsnd (fun _ => ?_) (fun _ => ?_) | refine csnd (fun _ => ?_) (fun _ => ?_) | refine gsd (fun _ => ?_) (fun _ => ?_) | refine csd (fun _ => ?_) (fun _ => ?_) | refine gsn (fun _ => ?_) (fun _ => ?_) | refine csn (fun _ => ?_) (fun _ => ?_))) | (with_reducible refine gs (fun _ => ?_) (fun _ => ?_)) | (with_reducible refine cs_ (fun _ => ?_) (fun _ => ?_)) | (with_reducible refine objQ_i (fun _ _ => ?_); (repeat (with_reducible refine imp_i (fun _ => ?_)))) | ((try with_reducible refine appK_a ?_); first | (with_reducible refine appD_F (by refine ⟨?_, ?_, ?_, ?_⟩ <;> (first | assumption | omega | exact St.has_add (by assumption) | (simp only [ins_has]; exact St.has_add (by assumption)) | (simp only [ins_has, fresh_ins, kill_ins, add_ins] at *; exact St.has_add (by assumption)) | (simp only [*, ins_has, has_full, St.has_add]; done) | (simp [-List.map_take, -List.map_drop, or_imp, forall_and, Seg.a, Vec.a, Leg.a, num, okEl, cells_agg, cells_int, cells_sl, cells_bool, AV.isCell]; done) | (simp; omega))) (fun _ _ => ?_)) | (with_reducible refine appD_V (by refine ⟨?_, ?_, ?_, ?_, ?_⟩ <;> (first | assumption | omega | exact St.has_add (by assumption) | (simp only [ins_has]; exact St.has_add (by assumption)) | (simp only [ins_has, fresh_ins, kill_ins, add_ins] at *; exact St.has_add (by assumption)) | (simp only [*, ins_has, has_full, St.has_add]; done) | (simp [-List.map_take, -List.map_drop, or_imp, forall_and, Seg.a, Vec.a, Leg.a, num, okEl, cells_agg, cells_int, cells_sl, cells_bool, AV.isCell]; done) | (simp; omega))) (fun _ _ => ?_))) | (with_reducible refine freshQ_i (fun _ _ => ?_)) | (with_reducible refine nilQ_i (fun _ _ => ?_))))
      exact ⟨_, St.le.refl _, S', .inl hI', hle'.trans (by (refine ⟨fun i o e => ?_, fun _ h => h⟩; revert e; simp only [St.ins, St.del, add_objs, kill_objs]; (repeat' split); all_goals (first | exact id | (intros; contradiction) | (intros; subst_vars; contradiction) | (intros; simp_all; done) | (intros; subst_vars; simp_all; done))))⟩
    · (repeat' (first | (simp (config := { maxDischargeDepth := 16 }) only [*, num, Seg.a, vX, Int.reduceLE, Int.reduceLT, Int.reduceGE, Int.reduceGT, Int.reduceBEq, Int.reduceBNe, Int.reduceAdd, Int.reduceSub, Int.reduceMul, Int.reduceNeg, ↓vD, vU, ↓vMd, vMu, VE.ev, VE.evs, retvs, tupOf, grab, vfill, vbsl, eqCells, eqCell, veqs, veqs1, vmnx, AV.isCell, AV.isUndef, Nat.reduceEqDiff, Nat.reduceAdd, Nat.reduceSub, Nat.reduceLeDiff, Nat.reduceLT, reduceIte, reduceCtorEq, Nat.reduceBEq]) | (simp (disch := first | assumption | omega | exact Seg.len _ | exact Vec.len _ | exact Leg.len _ | exact num_len _ | exact rowA_len _ | exact rowA_len | exact rowT_len _ | exact rowT_len | exact Seg.len | exact Vec.len | exact Leg.len | exact num_len | exact AV.slen _ _ | rfl) only [num, Seg.a, vP]) | (with_reducible (first | refine gsnd (fun _ => ?_) (fun _ => ?_) | refine csnd (fun _ => ?_) (fun _ => ?_) | refine gsd (fun _ => ?_) (fun _ => ?_) | refine csd (fun _ => ?_) (fun _ => ?_) | refine gsn (fun _ => ?_) (fun _ => ?_) | refine csn (fun _ => ?_) (fun _ => ?_))) | (with_reducible refine gs (fun _ => ?_) (fun _ => ?_)) | (with_reducible refine cs_ (fun _ => ?_) (fun _ => ?_)) | (with_reducible refine objQ_i (fun _ _ => ?_); (repeat (with_reducible refine imp_i (fun _ => ?_)))) | ((try with_reducible refine appK_a ?_); first | (with_reducible refine appD_F (by refine ⟨?_, ?_, ?_, ?_⟩ <;> (first | assumption | omega | exact St.has_add (by assumption) | (simp only [ins_has]; exact St.has_add (by assumption)) | (simp only [ins_has, fresh_ins, kill_ins, add_ins] at *; exact St.has_add (by assumption)) | (simp only [*, ins_has, has_full, St.has_add]; done) | (simp [-List.map_take, -List.map_drop, or_imp, forall_and, Seg.a, Vec.a, Leg.a, num, okEl, cells_agg, cells_int, cells_sl, cells_bool, AV.isCell]; done) | (simp; omega))) (fun _ _ => ?_)) | (with_reducible refine appD_V (by refine ⟨?_, ?_, ?_, ?_, ?_⟩ <;> (first | assumption | omega | exact St.has_add (by assumption) | (simp only [ins_has]; exact St.has_add (by assumption)) | (simp only [ins_has, fresh_ins, kill_ins, add_ins] at *; exact St.has_add (by assumption)) | (simp only [*, ins_has, has_full, St.has_add]; done) | (simp [-List.map_take, -List.map_drop, or_imp, forall_and, Seg.a, Vec.a, Leg.a, num, okEl, cells_agg, cells_int, cells_sl, cells_bool, AV.isCell]; done) | (simp; omega))) (fun _ _ => ?_))) | (with_reducible refine freshQ_i (fun _ _ => ?_)) | (with_reducible refine nilQ_i (fun _ _ => ?_))))
      exact ⟨_, St.le.refl _, S', .inr hE', hle'.trans (by (refine ⟨fun i o e => ?_, fun _ h => h⟩; revert e; simp only [St.ins, St.del, add_objs, kill_objs]; (repeat' split); all_goals (first | exact id | (intros; contradiction) | (intros; subst_vars; contradiction) | (intros; simp_all; done) | (intros; subst_vars; simp_all; done))))⟩
end Go.Proofs.YtglekfgoadehbaaGreatDoor.V
end
section
/- What the package span's functions compute: over, least, Low. -/
namespace Go.Proofs.YtglekfgoadehbaaGreatDoor.V
open Go Go.Proofs
set_option maxRecDepth 100000
set_option maxHeartbeats 4000000
theorem VCalls.z {P : Program} {Z Y : Im} {f : Nat} {args : List AV} {st : St} {K : AV → St → Prop} (h : VCalls P Z f args st K) (hz : Z.le Y) : VCalls P Y f args st K :=
  ⟨h.1, fun B I W vs hy hr ha => h.2 B I W vs (hz.trans hy) hr ha⟩
theorem VCalls.sm {P : Program} {Z : Im} {f : Nat} {args : List AV} {st : St} {K : AV → St → Prop} (h : VCalls P Z f args st (fun r s => ∃ S', K r S' ∧ S'.le s)) : VCalls P Z f args st K :=
  h.wk (fun v _ ⟨S', hk, hle⟩ => ⟨v, S', Wk.le hle _, hk⟩)
theorem over_c {Z : Im} {st : St} (f : List Seg) (hn : f.length ≤ 1000000) (a z : Int) (t : Tok) {g : Nat} {fs cs : List AV} (I : Nat → St → Prop) (h0 : I 0 st)
    (hh : overE f a z = 0 → ∀ k (hk : k < (runsF f a z).length) S, I k S → VCalls Tryz.prog Z g (fs ++ [runA (runsF f a z)[k]] ++ cs) S (fun _ s => I (k + 1) s)) :
    VCalls Tryz.prog Z 62 [.sl (f.map Seg.a) t, num a, num z, .clo g fs cs] st (fun r s => r = num (overE f a z) ∧ (if overE f a z = 0 then I (runsF f a z).length s else I 0 s)) := by
  refine VCalls.sm ?_
  have hmay := May_F f (by omega) t
  obtain ⟨mf, hmf⟩ : ∃ m, mayF f = m := ⟨_, rfl⟩
  rw [hmf] at hmay
  have hin := in2_v a z
  cases mf with
  | false =>
    have e : overE f a z = 5 := by unfold overE; rw [hmf]; rfl
    simp only [e, if_false, Int.reduceEq]
    clear hmf e hh
    refine VCalls.of v_span_over_ok (Nat.le_of_ble_eq_true rfl) ?_
    simp only [v_span_over, ↓vD, vU, ↓vMd, vMu, vZ, seval, k_app, k_slc1]
    (repeat' (first | (simp (maxDischargeDepth := 16) only [*, num, vX, ↓vD, vU, ↓vMd, vMu, vZ, seval]) | (simp (disch := first | assumption | omega | rfl | exact fun _ => rfl) only [num, vP]) | ((with_reducible first | apply gsnd | apply csnd | apply gsd | apply csd | apply gsn | apply csn | apply gs | apply cs_) <;> intro _) | (with_reducible refine objQ_i (fun _ _ => ?_); repeat with_reducible refine imp_i (fun _ => ?_)) | (with_reducible first | refine callH_use (hmay) ?_ | refine pureQ_use (hmay) ?_) | (with_reducible first | refine callH_use (hin _) ?_ | refine pureQ_use (hin _) ?_)))
    exact ⟨_, St.le.refl _, st, h0, by (refine ⟨fun i o e => ?_, fun _ h => h⟩; revert e; simp only [St.ins, St.del, add_objs, kill_objs]; (repeat' split); all_goals (first | exact id | (intros; contradiction) | (intros; subst_vars; contradiction) | (intros; simp_all; done) | (intros; subst_vars; simp_all; done)))⟩
  | true =>
  by_cases hc : -1125899906842624 ≤ min a z ∧ max a z ≤ 1125899906842624 ∧ a < z ∧ z - a ≤ 8000
  case neg =>
    have e : overE f a z = 2 := by unfold overE; rw [hmf, if_pos rfl, if_neg hc]
    simp only [e, if_false, Int.reduceEq]
    clear hmf e hh
    by_cases c1 : -1125899906842624 ≤ min a z
    case neg =>
      refine VCalls.of v_span_over_ok (Nat.le_of_ble_eq_true rfl) ?_
      simp only [v_span_over, ↓vD, vU, ↓vMd, vMu, vZ, seval, k_app, k_slc1]
      (repeat' (first | (simp (maxDischargeDepth := 16) only [*, num, decide_false, decide_true, Bool.false_and, Bool.true_and, Bool.and_false, Bool.not_false, Bool.not_true, vX, ↓vD, vU, ↓vMd, vMu, vZ, seval]) | (simp (disch := first | assumption | omega | rfl | exact fun _ => rfl) only [num, decide_false, decide_true, Bool.false_and, Bool.true_and, Bool.and_false, Bool.not_false, Bool.not_true, vP]) | ((with_reducible first | apply gsnd | apply csnd | apply gsd | apply csd | apply gsn | apply csn | apply gs | apply cs_) <;> intro _) | (with_reducible refine objQ_i (fun _ _ => ?_); repeat with_reducible refine imp_i (fun _ => ?_)) | (with_reducible first | refine callH_use (hmay) ?_ | refine pureQ_use (hmay) ?_) | (with_reducible first | refine callH_use (hin _) ?_ | refine pureQ_use (hin _) ?_)))
      exact ⟨_, St.le.refl _, st, h0, by (refine ⟨fun i o e => ?_, fun _ h => h⟩; revert e; simp only [St.ins, St.del, add_objs, kill_objs]; (repeat' split); all_goals (first | exact id | (intros; contradiction) | (intros; subst_vars; contradiction) | (intros; simp_all; done) | (intros; subst_vars; simp_all; done)))⟩
    by_cases c2 : max a z ≤ 1125899906842624
    case neg =>
      refine VCalls.of v_span_over_ok (Nat.le_of_ble_eq_true rfl) ?_
      simp only [v_span_over, ↓vD, vU, ↓vMd, vMu, vZ, seval, k_app, k_slc1]
      (repeat' (first | (simp (maxDischargeDepth := 16) only [*, num, decide_false, decide_true, Bool.false_and, Bool.true_and, Bool.and_false, Bool.not_false, Bool.not_true, vX, ↓vD, vU, ↓vMd, vMu, vZ, seval]) | (simp (disch := first | assumption | omega | rfl | exact fun _ => rfl) only [num, decide_false, decide_true, Bool.false_and, Bool.true_and, Bool.and_false, Bool.not_false, Bool.not_true, vP]) | ((with_reducible first | apply gsnd | apply csnd | apply gsd | apply csd | apply gsn | apply csn | apply gs | apply cs_) <;> intro _) | (with_reducible refine objQ_i (fun _ _ => ?_); repeat with_reducible refine imp_i (fun _ => ?_)) | (with_reducible first | refine callH_use (hmay) ?_ | refine pureQ_use (hmay) ?_) | (with_reducible first | refine callH_use (hin _) ?_ | refine pureQ_use (hin _) ?_)))
      exact ⟨_, St.le.refl _, st, h0, by (refine ⟨fun i o e => ?_, fun _ h => h⟩; revert e; simp only [St.ins, St.del, add_objs, kill_objs]; (repeat' split); all_goals (first | exact id | (intros; contradiction) | (intros; subst_vars; contradiction) | (intros; simp_all; done) | (intros; subst_vars; simp_all; done)))⟩
    have b1 : -1125899906842624 ≤ a ∧ -1125899906842624 ≤ z ∧ a ≤ 1125899906842624 ∧ z ≤ 1125899906842624 := by omega
    obtain ⟨b1, b2, b3, b4⟩ := b1
    have hw : IntKind.i64.wrap (z - a) = z - a := wrap_i64 _ (by omega) (by omega)
    by_cases c3 : z ≤ a
    · refine VCalls.of v_span_over_ok (Nat.le_of_ble_eq_true rfl) ?_
      simp only [v_span_over, ↓vD, vU, ↓vMd, vMu, vZ, seval, k_app, k_slc1]
      (repeat' (first | (simp (maxDischargeDepth := 16) only [*, num, decide_false, decide_true, Bool.false_and, Bool.true_and, Bool.and_false, Bool.not_false, Bool.not_true, vX, ↓vD, vU, ↓vMd, vMu, vZ, seval]) | (simp (disch := first | assumption | omega | rfl | exact fun _ => rfl) only [num, decide_false, decide_true, Bool.false_and, Bool.true_and, Bool.and_false, Bool.not_false, Bool.not_true, vP]) | ((with_reducible first | apply gsnd | apply csnd | apply gsd | apply csd | apply gsn | apply csn | apply gs | apply cs_) <;> intro _) | (with_reducible refine objQ_i (fun _ _ => ?_); repeat with_reducible refine imp_i (fun _ => ?_)) | (with_reducible first | refine callH_use (hmay) ?_ | refine pureQ_use (hmay) ?_) | (with_reducible first | refine callH_use (hin _) ?_ | refine pureQ_use (hin _) ?_)))
      exact ⟨_, St.le.refl _, st, h0, by (refine ⟨fun i o e => ?_, fun _ h => h⟩; revert e; simp only [St.ins, St.del, add_objs, kill_objs]; (repeat' split); all_goals (first | exact id | (intros; contradiction) | (intros; subst_vars; contradiction) | (intros; simp_all; done) | (intros; subst_vars; simp_all; done)))⟩
    · have c4 : 8000 < z - a := by omega
      refine VCalls.of v_span_over_ok (Nat.le_of_ble_eq_true rfl) ?_
      simp only [v_span_over, ↓vD, vU, ↓vMd, vMu, vZ, seval, k_app, k_slc1]
      (repeat' (first | (simp (maxDischargeDepth := 16) only [*, num, decide_false, decide_true, Bool.false_and, Bool.true_and, Bool.and_false, Bool.not_false, Bool.not_true, vX, ↓vD, vU, ↓vMd, vMu, vZ, seval]) | (simp (disch := first | assumption | omega | rfl | exact fun _ => rfl) only [num, decide_false, decide_true, Bool.false_and, Bool.true_and, Bool.and_false, Bool.not_false, Bool.not_true, vP]) | ((with_reducible first | apply gsnd | apply csnd | apply gsd | apply csd | apply gsn | apply csn | apply gs | apply cs_) <;> intro _) | (with_reducible refine objQ_i (fun _ _ => ?_); repeat with_reducible refine imp_i (fun _ => ?_)) | (with_reducible first | refine callH_use (hmay) ?_ | refine pureQ_use (hmay) ?_) | (with_reducible first | refine callH_use (hin _) ?_ | refine pureQ_use (hin _) ?_)))
      exact ⟨_, St.le.refl _, st, h0, by (refine ⟨fun i o e => ?_, fun _ h => h⟩; revert e; simp only [St.ins, St.del, add_objs, kill_objs]; (repeat' split); all_goals (first | exact id | (intros; contradiction) | (intros; subst_vars; contradiction) | (intros; simp_all; done) | (intros; subst_vars; simp_all; done)))⟩
  case pos =>
    have e : overE f a z = 0 := by unfold overE; rw [hmf, if_pos rfl, if_pos hc]
    have hh2 := hh e
    simp only [e, if_true]
    clear hmf e hh
    obtain ⟨c1, c2, c3, c4⟩ := hc
    have b1 : -1125899906842624 ≤ a ∧ -1125899906842624 ≤ z ∧ a ≤ 1125899906842624 ∧ z ≤ 1125899906842624 := by omega
    obtain ⟨b1, b2, b3, b4⟩ := b1
    have hw : IntKind.i64.wrap (z - a) = z - a := wrap_i64 _ (by omega) (by omega)
    have hr := runs_c f a z t
    unfold num at hr
    have HH := Hid.mk hh2
    clear hh2
    refine VCalls.of v_span_over_ok (Nat.le_of_ble_eq_true rfl) ?_
    simp only [v_span_over, ↓vD, vU, ↓vMd, vMu, vZ, seval, k_app, k_slc1]
    (repeat' (first | (simp (maxDischargeDepth := 16) only [*, num, decide_false, decide_true, Bool.false_and, Bool.true_and, Bool.and_false, Bool.not_false, Bool.not_true, Bool.and_self, vX, ↓vD, vU, ↓vMd, vMu, vZ, seval]) | (simp (disch := first | assumption | omega | rfl | exact fun _ => rfl) only [num, decide_false, decide_true, Bool.false_and, Bool.true_and, Bool.and_false, Bool.not_false, Bool.not_true, Bool.and_self, vP]) | ((with_reducible first | apply gsnd | apply csnd | apply gsd | apply csd | apply gsn | apply csn | apply gs | apply cs_) <;> intro _) | (with_reducible refine objQ_i (fun _ _ => ?_); repeat with_reducible refine imp_i (fun _ => ?_)) | (with_reducible first | refine callH_use (hmay) ?_ | refine pureQ_use (hmay) ?_) | (with_reducible first | refine callH_use (hin _) ?_ | refine pureQ_use (hin _) ?_) | (with_reducible first | refine callH_use (hr) ?_ | refine pureQ_use (hr) ?_)))
    rename_i b7 h7
    refine rng_iter (gf := 100) (fs := []) (by simp only [↓vD, vU, ↓vMd, vMu, vZ, seval, k_app, k_slc1]; rfl) (runs_it f (by omega) a z b1 b4 c3 t) (by intro x hx; obtain ⟨_, _, rfl⟩ := List.mem_map.1 hx; rfl) (fun j T => ∃ S, T = S.ins b7 (.cells [.clo g fs cs]) ∧ I j S ∧ S.objs b7 = none) (fun _ _ => False) ⟨st, rfl, h0, h7⟩ ?_ ?_ (by intro _ _ _ _ _ _ _ h; exact h.elim)
    · rintro Y l0 D r hzy nlD nDl j hj T ⟨S, rfl, hI, hS7⟩ hTl hTD
      simp only [ins_objs, ite_some_none] at hTl hTD
      obtain ⟨q1, q2, hSl⟩ := hTl
      obtain ⟨r1, r2, hSD⟩ := hTD
      rw [List.length_map] at hj
      simp only [List.getElem_map]
      have hcall := (HH.out j hj S hI).z hzy
      obtain ⟨it, hit⟩ : ∃ it, (runsF f a z)[j] = it := ⟨_, rfl⟩
      rw [hit] at hcall ⊢
      simp only [runA] at hcall
      clear hit
      (repeat' (first | (simp (maxDischargeDepth := 16) only [*, argsFr1_t, argsFr1_d, runA, rq_normal, vX, ↓vD, vU, ↓vMd, vMu, vZ, seval]) | (simp (disch := first | assumption | omega | rfl | exact fun _ => rfl) only [argsFr1_t, argsFr1_d, runA, rq_normal, vP]) | ((with_reducible first | apply gsnd | apply csnd | apply gsd | apply csd | apply gsn | apply csn | apply gs | apply cs_) <;> intro _) | (with_reducible refine objQ_i (fun _ _ => ?_); repeat with_reducible refine imp_i (fun _ => ?_))))
      rename_i b9 h9 m1 m2 m3 m4 m5 m6
      refine callH_then ((((hcall.frame b7 _ hS7).frame D _ (by simp only [ins_objs, kill_objs, add_objs, *, if_false, if_true, not_false_eq_true, ite_some_none, and_self, and_true, true_and])).frame b9 _ (by simp only [ins_objs, kill_objs, add_objs, *, if_false, if_true, not_false_eq_true, ite_some_none, and_self, and_true, true_and])).frame l0 _ (by simp only [ins_objs, kill_objs, add_objs, *, if_false, if_true, not_false_eq_true, ite_some_none, and_self, and_true, true_and])) ?_
      rintro v _ ⟨_, ⟨_, ⟨_, ⟨s0, hI', u7, rfl⟩, uD, rfl⟩, u9, rfl⟩, ul, rfl⟩
      simp only [ins_objs, ite_some_none] at u7 uD ul u9
      (repeat' (first | (simp (maxDischargeDepth := 16) only [*, rq_normal, vX, ↓vD, vU, ↓vMd, vMu, vZ, seval]) | (simp (disch := first | assumption | omega | rfl | exact fun _ => rfl) only [rq_normal, vP]) | ((with_reducible first | apply gsnd | apply csnd | apply gsd | apply csd | apply gsn | apply csn | apply gs | apply cs_) <;> intro _) | (with_reducible refine objQ_i (fun _ _ => ?_); repeat with_reducible refine imp_i (fun _ => ?_))))
      have v9 : s0.objs b9 = none := u9.2.2.2.2
      exact ⟨_, ⟨⟨s0, rfl, hI', u7⟩, (by simp only [ins_objs, kill_objs, add_objs, *, if_false, if_true, not_false_eq_true, ite_some_none, and_self, and_true, true_and])⟩, (by simp only [ins_objs, kill_objs, add_objs, *, if_false, if_true, not_false_eq_true, ite_some_none, and_self, and_true, true_and]), by (refine leX.start ?_ rfl; (repeat (refine leX.in_ (by simp only [*, ins_objs, if_true, if_false]; first | done | rfl) ?_)); (repeat (first | refine leX.new (by first | assumption | (rw [hob]; assumption)) ?_ | refine leX.old (by (simp only [List.mem_cons, true_or, or_true, eq_self]; done)) ?_)); exact leX.refl _ _)⟩
    · rintro D l0 o T nlD nDl ⟨S, rfl, hI, hS7⟩ hTl hTD
      simp only [ins_objs, ite_some_none] at hTl hTD
      obtain ⟨q1, q2, hSl⟩ := hTl
      obtain ⟨r1, r2, hSD⟩ := hTD
      rw [List.length_map] at hI
      (repeat' (first | (simp (maxDischargeDepth := 16) only [*, vX, ↓vD, vU, ↓vMd, vMu, vZ, seval]) | (simp (disch := first | assumption | omega | rfl | exact fun _ => rfl) only [vP]) | ((with_reducible first | apply gsnd | apply csnd | apply gsd | apply csd | apply gsn | apply csn | apply gs | apply cs_) <;> intro _) | (with_reducible refine objQ_i (fun _ _ => ?_); repeat with_reducible refine imp_i (fun _ => ?_))))
      refine ⟨_, S, rfl, ?_, by simp, by (refine ⟨fun i o e => ?_, fun _ h => h⟩; revert e; simp only [St.ins, St.del, add_objs, kill_objs]; (repeat' split); all_goals (first | exact id | (intros; contradiction) | (intros; subst_vars; contradiction) | (intros; simp_all; done) | (intros; subst_vars; simp_all; done))), S, ⟨rfl, hI⟩, St.le.refl _⟩
      intro D' hD'
      rcases List.mem_singleton.1 hD' with rfl
      exact ⟨(by simp only [ins_objs, kill_objs, add_objs, *, if_false, if_true, not_false_eq_true, ite_some_none, and_self, and_true, true_and]), hSD⟩
theorem least1_c {Z : Im} {S : St} {g : Nat} {fs cs : List AV} (ch : Vec → Vec → Vec) (hg : ∀ x y : Vec, VPure Tryz.prog g (fs ++ [x.a, y.a] ++ cs) (ch x y).a) (q : Vec × Int) (u : Vec) {b7 b8 b10 : Nat} (n1 : ¬ b7 = b8) (n2 : ¬ b7 = b10) (n3 : ¬ b8 = b10) (o8 : AObj) :
    VCalls Tryz.prog Z 63 [runA q, .ptr b7 0, .ptr b10 0] (((S.ins b7 (.cells [.clo g fs cs])).ins b8 o8).ins b10 (.cells [.int .i64 u.m, .int .i64 u.c])) (fun _ s => s = ((S.ins b7 (.cells [.clo g fs cs])).ins b8 o8).ins b10 (.cells [.int .i64 (ch u q.1).m, .int .i64 (ch u q.1).c])) := by
  have hc := hg u q.1
  simp only [Vec.a] at hc
  have n1' : ¬ b8 = b7 := fun e => n1 e.symm
  have n2' : ¬ b10 = b7 := fun e => n2 e.symm
  have n3' : ¬ b10 = b8 := fun e => n3 e.symm
  refine VCalls.of v_span_least_1_ok (Nat.le_of_ble_eq_true rfl) ?_
  simp only [v_span_least_1, ↓vD, vU, ↓vMd, vMu, vZ, seval, k_app, k_slc1]
  (repeat' (first | (simp (maxDischargeDepth := 16) only [*, runA, vX, ↓vD, vU, ↓vMd, vMu, vZ, seval]) | (simp (disch := first | assumption | omega | rfl | exact fun _ => rfl) only [runA, vP]) | ((with_reducible first | apply gsnd | apply csnd | apply gsd | apply csd | apply gsn | apply csn | apply gs | apply cs_) <;> intro _) | (with_reducible refine objQ_i (fun _ _ => ?_); repeat with_reducible refine imp_i (fun _ => ?_)) | (with_reducible first | refine callH_use (hc) ?_ | refine pureQ_use (hc) ?_)))
  all_goals first | done | exact ⟨_, by (refine ⟨fun i o e => ?_, fun _ h => h⟩; revert e; simp only [St.ins, St.del, add_objs, kill_objs]; (repeat' split); all_goals (first | exact id | (intros; contradiction) | (intros; subst_vars; contradiction) | (intros; simp_all; done) | (intros; subst_vars; simp_all; done))), rfl⟩
theorem least_c (f : List Seg) (hn : f.length ≤ 1000000) (a z : Int) (t : Tok) {g : Nat} {fs cs : List AV} (ch : Vec → Vec → Vec) (hg : ∀ x y : Vec, VPure Tryz.prog g (fs ++ [x.a, y.a] ++ cs) (ch x y).a) :
    VPure Tryz.prog 36 [.sl (f.map Seg.a) t, num a, num z, .clo g fs cs] (.tup [(if overE f a z = 0 then leastF ch f a z else v0).a, num (overE f a z)]) := fun Z st => by
  have hAt := At_v f (by omega) t a
  obtain ⟨L, hL⟩ : ∃ L, runsF f a z = L := ⟨_, rfl⟩
  obtain ⟨u0, hu0⟩ : ∃ u, atF f a = u := ⟨_, rfl⟩
  have HF : Hid (leastF ch f a z = L.foldl (fun o q => ch o q.1) u0) := ⟨by unfold leastF; rw [hL, hu0]⟩
  have HL := Hid.mk hL
  rw [hu0] at hAt
  clear hL hu0
  refine VCalls.of v_span_least_ok (Nat.le_of_ble_eq_true rfl) ?_
  simp only [v_span_least, ↓vD, vU, ↓vMd, vMu, vZ, seval, k_app, k_slc1]
  (repeat' (first | (simp (maxDischargeDepth := 16) only [*, num, vX, ↓vD, vU, ↓vMd, vMu, vZ, seval]) | (simp (disch := first | assumption | omega | rfl | exact fun _ => rfl) only [num, vP]) | ((with_reducible first | apply gsnd | apply csnd | apply gsd | apply csd | apply gsn | apply csn | apply gs | apply cs_) <;> intro _) | (with_reducible refine objQ_i (fun _ _ => ?_); repeat with_reducible refine imp_i (fun _ => ?_)) | (with_reducible first | refine callH_use (hAt) ?_ | refine pureQ_use (hAt) ?_)))
  rename_i b7 h7 b8 h8 n1 n2 b10 h10 n3 n4 n5 n6
  have ho := over_c (Z := Z) (st := ((st.ins b7 (.cells [.clo g fs cs])).ins b8 (.cells [.int .i64 0, .int .i64 0])).ins b10 (.cells [.int .i64 u0.m, .int .i64 u0.c])) f hn a z t (g := 63) (fs := []) (cs := [.ptr b7 0, .ptr b10 0])
    (fun k S => S = ((st.ins b7 (.cells [.clo g fs cs])).ins b8 (.cells [.int .i64 0, .int .i64 0])).ins b10 (.cells [.int .i64 ((L.take k).foldl (fun o q => ch o q.1) u0).m, .int .i64 ((L.take k).foldl (fun o q => ch o q.1) u0).c])) rfl (fun he k hk S hS => by
      subst hS
      refine (least1_c ch hg (runsF f a z)[k] ((L.take k).foldl (fun o q => ch o q.1) u0) n2 n4 n6 _).mono ?_
      rintro v s rfl
      rw [List.take_add_one]
      have hk2 : k < L.length := by rw [← HL.out]; exact hk
      rw [List.getElem?_eq_getElem hk2, List.foldl_append]
      simp only [HL.out, Option.toList, List.foldl_cons, List.foldl_nil])
  rw [HL.out, List.take_length, ← HF.out] at ho
  unfold num at ho
  refine callH_then ho ?_
  rintro _ s ⟨rfl, hI⟩
  clear ho
  obtain ⟨e, he⟩ : ∃ e, overE f a z = e := ⟨_, rfl⟩
  rw [he] at hI ⊢
  obtain ⟨w, hw⟩ : ∃ w, leastF ch f a z = w := ⟨_, rfl⟩
  rw [hw] at hI ⊢
  by_cases h0 : e = 0
  · subst h0
    rw [if_pos rfl] at hI ⊢
    subst hI
    clear HF hw he
    (repeat' (first | (simp (maxDischargeDepth := 16) only [*, Vec.a, vX, ↓vD, vU, ↓vMd, vMu, vZ, seval]) | (simp (disch := first | assumption | omega | rfl | exact fun _ => rfl) only [Vec.a, vP]) | ((with_reducible first | apply gsnd | apply csnd | apply gsd | apply csd | apply gsn | apply csn | apply gs | apply cs_) <;> intro _) | (with_reducible refine objQ_i (fun _ _ => ?_); repeat with_reducible refine imp_i (fun _ => ?_))))
    all_goals first | done | exact ⟨_, by (refine ⟨fun i o e => ?_, fun _ h => h⟩; revert e; simp only [St.ins, St.del, add_objs, kill_objs]; (repeat' split); all_goals (first | exact id | (intros; contradiction) | (intros; subst_vars; contradiction) | (intros; simp_all; done) | (intros; subst_vars; simp_all; done))), rfl⟩
  · rw [if_neg h0] at hI ⊢
    subst hI
    clear HF hw he
    (repeat' (first | (simp (maxDischargeDepth := 16) only [*, Vec.a, vX, ↓vD, vU, ↓vMd, vMu, vZ, seval]) | (simp (disch := first | assumption | omega | rfl | exact fun _ => rfl) only [Vec.a, vP]) | ((with_reducible first | apply gsnd | apply csnd | apply gsd | apply csd | apply gsn | apply csn | apply gs | apply cs_) <;> intro _) | (with_reducible refine objQ_i (fun _ _ => ?_); repeat with_reducible refine imp_i (fun _ => ?_))))
    all_goals rfl
theorem Low_c (f : List Seg) (hn : f.length ≤ 1000000) (a z : Int) (t : Tok) :
    VPure Tryz.prog 16 [.sl (f.map Seg.a) t, num a, num z] (.tup [(if overE f a z = 0 then leastF minV f a z else v0).a, num (overE f a z)]) := by
  have h := least_c f hn a z t (g := 37) (fs := []) (cs := []) minV (fun x y => Min_v x.m x.c y.m y.c)
  obtain ⟨q, hq⟩ : ∃ q, (if overE f a z = 0 then leastF minV f a z else v0) = q := ⟨_, rfl⟩
  rw [hq] at h ⊢
  clear hq
  simp only [num, Vec.a] at h
  refine VPure.of v_span_Low_ok (Nat.le_of_ble_eq_true rfl) (fun Z st => ?_)
  simp only [v_span_Low, ↓vD, vU, ↓vMd, vMu, vZ, seval, k_app, k_slc1]
  (repeat' (first | (simp (maxDischargeDepth := 16) only [*, num, Vec.a, vX, ↓vD, vU, ↓vMd, vMu, vZ, seval]) | (simp (disch := first | assumption | omega | rfl | exact fun _ => rfl) only [num, Vec.a, vP]) | ((with_reducible first | apply gsnd | apply csnd | apply gsd | apply csd | apply gsn | apply csn | apply gs | apply cs_) <;> intro _) | (with_reducible refine objQ_i (fun _ _ => ?_); repeat with_reducible refine imp_i (fun _ => ?_)) | (with_reducible first | refine callH_use (h) ?_ | refine pureQ_use (h) ?_)))
end Go.Proofs.YtglekfgoadehbaaGreatDoor.V
end
section
/- The compiled functions of the package fit (printed by Print.lean of this work). -/
namespace Go.Proofs.YtglekfgoadehbaaGreatDoor.V
open Go Go.Proofs
def v_fit_Fits : VFn := ⟨.seq (.reg [⟨some 4, .box (.t 0), none, [], []⟩,
 ⟨some 5, .box (.t 1), none, [], []⟩,
 ⟨some 6, .box (.t 2), none, [], []⟩,
 ⟨some 7, .box (.t 3), none, [], []⟩,
 ⟨some 8, .alloc [(.bool false)], none, [], []⟩,
 ⟨some 9, .mov (.c (.int .i64 0)), none, [], []⟩])
(.seq (.reg [⟨some 10, .load 1 false (.t 4), none, [], []⟩,
 ⟨some 11, .load 1 false (.t 5), none, [], []⟩,
 ⟨some 12, .load 1 false (.t 6), none, [], []⟩,
 ⟨some 13, .load 2 true (.t 7), none, [], []⟩,
 ⟨some 14, .mkf 15 [] [(.t 4), (.t 5), (.t 6), (.t 7), (.t 8)], none, [], []⟩,
 ⟨some 15, .call 14 [(.t 10), (.t 11), (.t 12), (.t 13), (.t 14)], none, [0, 1, 2, 3, 4], []⟩,
 ⟨some 9, .mov (.t 15), none, [5, 5, 0, 1, 2, 3, 4, 5], []⟩])
(.seq (.reg [⟨some 16, .load 1 false (.t 8), none, [], []⟩,
 ⟨some 17, .mov (.t 9), none, [], []⟩,
 ⟨none, .store 1 (.t 8) (.t 16), none, [0, 0], []⟩,
 ⟨some 9, .mov (.t 17), none, [1, 2, 0, 1, 2], []⟩])
(.ret))),
[.c 8 1 false, .t 9], 18⟩
theorem v_fit_Fits_ok : compF Tryz.prog 5 = some v_fit_Fits := by kernel_rfl
def v_fit_Take : VFn := ⟨.seq (.reg [⟨some 4, .box (.t 0), none, [], []⟩,
 ⟨some 5, .box (.t 1), none, [], []⟩,
 ⟨some 6, .box (.t 2), none, [], []⟩,
 ⟨some 7, .box (.t 3), none, [], []⟩,
 ⟨some 8, .alloc [(.sl [] .full)], none, [], []⟩,
 ⟨some 9, .mov (.c (.int .i64 0)), none, [], []⟩])
(.seq (.reg [⟨some 10, .load 1 false (.t 4), none, [], []⟩,
 ⟨some 11, .load 1 false (.t 5), none, [], []⟩,
 ⟨some 12, .load 1 false (.t 6), none, [], []⟩,
 ⟨some 13, .load 2 true (.t 7), none, [], []⟩,
 ⟨some 14, .mkf 20 [] [(.t 4), (.t 5), (.t 6), (.t 7), (.t 8)], none, [], []⟩,
 ⟨some 15, .call 14 [(.t 10), (.t 11), (.t 12), (.t 13), (.t 14)], none, [0, 1, 2, 3, 4], []⟩,
 ⟨some 9, .mov (.t 15), none, [5, 5, 0, 1, 2, 3, 4, 5], []⟩])
(.seq (.reg [⟨some 16, .load 1 false (.t 8), none, [], []⟩,
 ⟨some 17, .mov (.t 9), none, [], []⟩,
 ⟨none, .store 1 (.t 8) (.t 16), none, [0, 0], []⟩,
 ⟨some 9, .mov (.t 17), none, [1, 2, 0, 1, 2], []⟩])
(.ret))),
[.c 8 1 false, .t 9], 18⟩
theorem v_fit_Take_ok : compF Tryz.prog 7 = some v_fit_Take := by kernel_rfl
def v_fit_Most : VFn := ⟨.seq (.reg [⟨some 4, .box (.t 0), none, [], []⟩,
 ⟨some 5, .box (.t 1), none, [], []⟩,
 ⟨some 6, .box (.t 2), none, [], []⟩,
 ⟨some 7, .box (.t 3), none, [], []⟩,
 ⟨some 8, .alloc [(.int .i64 0)], none, [], []⟩,
 ⟨some 9, .mov (.c (.int .i64 0)), none, [], []⟩])
(.seq (.seq (.reg [⟨some 10, .load 1 false (.t 4), none, [], []⟩,
 ⟨some 11, .call 23 [(.t 10)], none, [0], []⟩,
 ⟨some 12, .mov (.t 11), none, [1, 1], []⟩,
 ⟨some 13, .fad 0 (.t 7), some (12, true), [2], []⟩,
 ⟨some 14, .load 1 false (.t 13), some (12, true), [3, 2], []⟩,
 ⟨some 15, .fad 1 (.t 7), some (12, true), [2], []⟩,
 ⟨some 16, .load 1 false (.t 15), some (12, true), [5, 2], []⟩,
 ⟨some 17, .mnx true (.t 14) [(.t 16)], some (12, true), [4, 6, 2], []⟩,
 ⟨some 18, .bin .lss (.t 17) (.c (.int .i64 1)), some (12, true), [7, 2], []⟩,
 ⟨some 19, .pick (.t 12) (.t 18) (.c (.bool false)), none, [2, 8], []⟩])
(.cond (.t 19)
 (.seq (.reg [⟨none, .store 1 (.t 8) (.c (.int .i64 0)), none, [], []⟩,
 ⟨some 9, .mov (.c (.int .i64 2)), none, [0, 0], []⟩])
 (.ret))
 (.skip)))
(.seq (.reg [⟨some 20, .load 1 false (.t 4), none, [], []⟩,
 ⟨some 21, .load 1 false (.t 5), none, [], []⟩,
 ⟨some 22, .load 1 false (.t 6), none, [], []⟩,
 ⟨some 23, .load 2 true (.t 7), none, [], []⟩,
 ⟨some 24, .mkf 24 [] [(.t 4), (.t 5), (.t 6), (.t 7), (.t 8)], none, [], []⟩,
 ⟨some 25, .call 14 [(.t 20), (.t 21), (.t 22), (.t 23), (.t 24)], none, [0, 1, 2, 3, 4], []⟩,
 ⟨some 9, .mov (.t 25), none, [5, 5, 0, 1, 2, 3, 4, 5], []⟩])
(.seq (.reg [⟨some 26, .load 1 false (.t 8), none, [], []⟩,
 ⟨some 27, .mov (.t 9), none, [], []⟩,
 ⟨none, .store 1 (.t 8) (.t 26), none, [0, 0], []⟩,
 ⟨some 9, .mov (.t 27), none, [1, 2, 0, 1, 2], []⟩])
(.ret)))),
[.c 8 1 false, .t 9], 28⟩
theorem v_fit_Most_ok : compF Tryz.prog 9 = some v_fit_Most := by kernel_rfl
def v_fit_Free : VFn := ⟨.seq (.reg [⟨some 10, .mov (.c (.sl [] .full)), none, [], []⟩,
 ⟨some 11, .mov (.c (.int .i64 0)), none, [0], []⟩])
(.seq (.seq (.reg [⟨some 13, .mov (.t 0), none, [], []⟩,
 ⟨some 14, .mov (.t 1), none, [], []⟩,
 ⟨some 15, .mov (.t 2), none, [], []⟩,
 ⟨some 16, .mov (.t 4), none, [], []⟩,
 ⟨some 17, .build [(.sl [] .full), (.sl [] .full), (.sl [] .full), (.int .i64 0)] [(0, 1, (.t 13)), (1, 1, (.t 14)), (2, 1, (.t 15)), (3, 1, (.t 16))], none, [0, 1, 2, 3], []⟩,
 ⟨some 18, .mov (.t 3), none, [], []⟩,
 ⟨some 19, .call 31 [(.t 17), (.t 18)], none, [4, 5], []⟩,
 ⟨some 12, .mov (.t 19), none, [6, 6, 0, 1, 2, 3, 4, 5, 6], []⟩])
(.seq (.reg [⟨some 20, .mov (.t 12), none, [], []⟩,
 ⟨some 21, .bin .neq (.t 20) (.c (.int .i64 0)), none, [0], []⟩])
(.cond (.t 21)
 (.seq (.reg [⟨some 22, .mov (.t 12), none, [], []⟩,
 ⟨some 10, .mov (.c (.sl [] .full)), none, [], []⟩,
 ⟨some 11, .mov (.t 22), none, [0, 1, 0, 1], []⟩])
 (.ret))
 (.skip))))
(.seq (.reg [⟨some 23, .mov (.t 0), none, [], []⟩,
 ⟨some 24, .mov (.t 4), none, [], []⟩,
 ⟨some 25, .call 33 [(.t 23), (.t 24)], none, [0, 1], []⟩,
 ⟨some 26, .mov (.t 1), none, [], []⟩,
 ⟨some 27, .mov (.t 4), none, [], []⟩,
 ⟨some 28, .call 33 [(.t 26), (.t 27)], none, [3, 4, 2], []⟩,
 ⟨some 29, .mov (.t 2), none, [], []⟩,
 ⟨some 30, .mov (.t 4), none, [], []⟩,
 ⟨some 31, .call 33 [(.t 29), (.t 30)], none, [6, 7, 5], []⟩,
 ⟨some 32, .mov (.t 4), none, [], []⟩,
 ⟨some 33, .build [(.sl [] .full), (.sl [] .full), (.sl [] .full), (.int .i64 0)] [(0, 1, (.t 25)), (1, 1, (.t 28)), (2, 1, (.t 31)), (3, 1, (.t 32))], none, [2, 5, 8, 9], []⟩,
 ⟨some 34, .mov (.t 3), none, [], []⟩,
 ⟨some 35, .call 32 [(.t 33), (.t 34)], none, [10, 11, 8], []⟩,
 ⟨some 36, .ext (.t 35) 0, none, [12], []⟩,
 ⟨some 37, .ext (.t 35) 1, none, [12], []⟩,
 ⟨some 10, .mov (.t 36), none, [13, 12, 0, 1, 2, 3, 4, 5, 6, 7, 8, 9, 10, 11, 12, 13, 14], []⟩,
 ⟨some 11, .mov (.t 37), none, [14, 15, 0, 1, 2, 3, 4, 5, 6, 7, 8, 9, 10, 11, 12, 13, 14, 15], []⟩])
(.ret))),
[.t 10, .t 11], 38⟩
theorem v_fit_Free_ok : compF Tryz.prog 13 = some v_fit_Free := by kernel_rfl
def v_fit_window : VFn := ⟨.seq (.reg [⟨some 8, .box (.t 3), none, [], []⟩,
 ⟨some 10, .mov (.c (.int .i64 0)), none, [], []⟩])
(.seq (.block 0
 (.seq (.reg [⟨some 12, .mov (.t 0), none, [], []⟩,
 ⟨some 13, .call 23 [(.t 12)], none, [0], []⟩,
 ⟨some 14, .un .not (.t 13), none, [1], []⟩,
 ⟨some 11, .mov (.t 14), none, [2, 1], []⟩])
 (.cond (.t 11)
 (.seq (.reg [⟨some 10, .mov (.c (.int .i64 5)), none, [], []⟩])
 (.ret))
 (.seq (.reg [⟨some 16, .mov (.t 2), none, [], []⟩,
 ⟨some 17, .bin .lss (.t 16) (.c (.int .i64 1)), none, [0], []⟩,
 ⟨some 18, .mov (.t 17), none, [1], []⟩,
 ⟨some 19, .mov (.t 2), some (18, false), [2], []⟩,
 ⟨some 20, .bin .gtr (.t 19) (.c (.int .i64 4096)), some (18, false), [3, 2], []⟩,
 ⟨some 21, .pick (.t 18) (.c (.bool true)) (.t 20), none, [2, 4], []⟩,
 ⟨some 15, .mov (.t 21), none, [5, 2], []⟩])
 (.cond (.t 15)
 (.seq (.reg [⟨some 10, .mov (.c (.int .i64 2)), none, [], []⟩])
 (.ret))
 (.seq (.reg [⟨some 23, .mov (.t 1), none, [], []⟩,
 ⟨some 24, .call 34 [(.t 23)], none, [0], []⟩,
 ⟨some 25, .mov (.t 24), none, [1, 1], []⟩,
 ⟨some 26, .load 2 true (.t 8), some (25, false), [2], []⟩,
 ⟨some 27, .call 35 [(.t 26)], some (25, false), [3, 2, 2], []⟩,
 ⟨some 28, .un .not (.t 27), some (25, false), [4, 2], []⟩,
 ⟨some 29, .pick (.t 25) (.c (.bool true)) (.t 28), none, [2, 5], []⟩,
 ⟨some 22, .mov (.t 29), none, [6, 4], []⟩])
 (.cond (.t 22)
 (.seq (.reg [⟨some 10, .mov (.c (.int .i64 10)), none, [], []⟩])
 (.ret))
 (.skip))))))))
(.seq (.reg [⟨some 30, .mov (.t 4), none, [], []⟩,
 ⟨some 31, .callv (.t 30) [], none, [0], []⟩,
 ⟨some 10, .mov (.t 31), none, [1, 1, 0, 1], []⟩])
(.ret))),
[.t 10], 32⟩
theorem v_fit_window_ok : compF Tryz.prog 14 = some v_fit_window := by kernel_rfl
def v_fit_Fits_1 : VFn := ⟨.seq (.reg [⟨some 5, .mov (.c (.int .i64 0)), none, [], []⟩])
(.seq (.reg [⟨some 9, .load 1 false (.t 0), none, [], []⟩,
 ⟨some 10, .load 1 false (.t 1), none, [], []⟩,
 ⟨some 11, .load 1 false (.t 1), none, [], []⟩,
 ⟨some 12, .load 1 false (.t 2), none, [], []⟩,
 ⟨some 13, .bin .add (.t 11) (.t 12), none, [2, 3], []⟩,
 ⟨some 14, .call 16 [(.t 9), (.t 10), (.t 13)], none, [0, 1, 4], []⟩,
 ⟨some 8, .mov (.t 14), none, [5], []⟩,
 ⟨some 15, .ext (.t 8) 0, none, [6], []⟩,
 ⟨some 16, .ext (.t 8) 1, none, [6], []⟩,
 ⟨some 6, .alloc [(.int .i64 0), (.int .i64 0)], none, [], []⟩,
 ⟨none, .store 2 (.t 6) (.t 15), none, [9, 7, 5, 0, 1, 2, 3, 4, 5, 6, 7, 9], []⟩,
 ⟨some 7, .mov (.t 16), none, [8, 10, 0, 1, 2, 3, 4, 5, 6, 7, 8, 9, 10], []⟩])
(.seq (.reg [⟨some 17, .mov (.t 7), none, [], []⟩,
 ⟨some 18, .bin .eql (.t 17) (.c (.int .i64 0)), none, [0], []⟩,
 ⟨some 19, .mov (.t 18), none, [1], []⟩,
 ⟨some 20, .load 2 true (.t 3), some (19, true), [2], []⟩,
 ⟨some 21, .load 2 true (.t 6), some (19, true), [2], []⟩,
 ⟨some 22, .call 17 [(.t 20), (.t 21)], some (19, true), [3, 4, 2, 2], []⟩,
 ⟨some 23, .pick (.t 19) (.t 22) (.c (.bool false)), none, [2, 5], []⟩,
 ⟨none, .store 1 (.t 4) (.t 23), none, [6, 5, 0, 1, 2, 3, 4, 5, 6], []⟩])
(.seq (.reg [⟨some 24, .mov (.t 7), none, [], []⟩,
 ⟨some 5, .mov (.t 24), none, [0, 0], []⟩])
(.ret)))),
[.t 5], 25⟩
theorem v_fit_Fits_1_ok : compF Tryz.prog 15 = some v_fit_Fits_1 := by kernel_rfl
def v_fit_Take_1 : VFn := ⟨.seq (.reg [⟨some 5, .mov (.c (.int .i64 0)), none, [], []⟩])
(.seq (.reg [⟨some 6, .mov (.c (.int .i64 0)), none, [], []⟩])
(.seq (.reg [⟨some 8, .load 1 false (.t 0), none, [], []⟩,
 ⟨some 9, .load 1 false (.t 1), none, [], []⟩,
 ⟨some 10, .load 1 false (.t 1), none, [], []⟩,
 ⟨some 11, .load 1 false (.t 2), none, [], []⟩,
 ⟨some 12, .bin .add (.t 10) (.t 11), none, [2, 3], []⟩,
 ⟨some 13, .fad 0 (.t 3), none, [], []⟩,
 ⟨some 14, .load 1 false (.t 13), none, [5], []⟩,
 ⟨some 15, .un .neg (.t 14), none, [6], []⟩,
 ⟨some 16, .fad 1 (.t 3), none, [], []⟩,
 ⟨some 17, .load 1 false (.t 16), none, [8], []⟩,
 ⟨some 18, .un .neg (.t 17), none, [9], []⟩,
 ⟨some 19, .build [(.int .i64 0), (.int .i64 0)] [(0, 1, (.t 15)), (1, 1, (.t 18))], none, [7, 10], []⟩,
 ⟨some 20, .call 21 [(.t 8), (.t 9), (.t 12), (.t 19)], none, [0, 1, 4, 11], []⟩,
 ⟨some 7, .mov (.t 20), none, [12], []⟩,
 ⟨some 21, .ext (.t 7) 0, none, [13], []⟩,
 ⟨some 22, .ext (.t 7) 1, none, [13], []⟩,
 ⟨none, .store 1 (.t 4) (.t 21), none, [14, 12, 0, 1, 2, 3, 4, 5, 6, 7, 8, 9, 10, 11, 12, 13, 14], []⟩,
 ⟨some 6, .mov (.t 22), none, [15, 16, 0, 1, 2, 3, 4, 5, 6, 7, 8, 9, 10, 11, 12, 13, 14, 15, 16], []⟩])
(.seq (.reg [⟨some 23, .mov (.t 6), none, [], []⟩,
 ⟨some 5, .mov (.t 23), none, [0, 0], []⟩])
(.ret)))),
[.t 5], 24⟩
theorem v_fit_Take_1_ok : compF Tryz.prog 20 = some v_fit_Take_1 := by kernel_rfl
def v_fit_Most_1 : VFn := ⟨.seq (.reg [⟨some 5, .mov (.c (.int .i64 0)), none, [], []⟩])
(.seq (.reg [⟨some 9, .load 1 false (.t 0), none, [], []⟩,
 ⟨some 10, .load 1 false (.t 1), none, [], []⟩,
 ⟨some 11, .load 1 false (.t 1), none, [], []⟩,
 ⟨some 12, .load 1 false (.t 2), none, [], []⟩,
 ⟨some 13, .bin .add (.t 11) (.t 12), none, [2, 3], []⟩,
 ⟨some 14, .call 16 [(.t 9), (.t 10), (.t 13)], none, [0, 1, 4], []⟩,
 ⟨some 8, .mov (.t 14), none, [5], []⟩,
 ⟨some 15, .ext (.t 8) 0, none, [6], []⟩,
 ⟨some 16, .ext (.t 8) 1, none, [6], []⟩,
 ⟨some 6, .alloc [(.int .i64 0), (.int .i64 0)], none, [], []⟩,
 ⟨none, .store 2 (.t 6) (.t 15), none, [9, 7, 5, 0, 1, 2, 3, 4, 5, 6, 7, 9], []⟩,
 ⟨some 7, .mov (.t 16), none, [8, 10, 0, 1, 2, 3, 4, 5, 6, 7, 8, 9, 10], []⟩])
(.seq (.seq (.reg [⟨some 17, .mov (.t 7), none, [], []⟩,
 ⟨some 18, .bin .neq (.t 17) (.c (.int .i64 0)), none, [0], []⟩])
(.cond (.t 18)
 (.seq (.reg [⟨some 19, .mov (.t 7), none, [], []⟩,
 ⟨some 5, .mov (.t 19), none, [0, 0], []⟩])
 (.ret))
 (.skip)))
(.seq (.reg [⟨some 21, .load 2 true (.t 6), none, [], []⟩,
 ⟨some 22, .load 2 true (.t 3), none, [], []⟩,
 ⟨some 23, .call 25 [(.t 21), (.t 22)], none, [0, 1], []⟩,
 ⟨some 20, .mov (.t 23), none, [2], []⟩,
 ⟨some 24, .ext (.t 20) 0, none, [3], []⟩,
 ⟨some 25, .ext (.t 20) 1, none, [3], []⟩,
 ⟨none, .store 1 (.t 4) (.t 24), none, [4, 2, 0, 1, 2, 3, 4], []⟩,
 ⟨some 7, .mov (.t 25), none, [5, 6, 0, 1, 2, 3, 4, 5, 6], []⟩])
(.seq (.reg [⟨some 26, .mov (.t 7), none, [], []⟩,
 ⟨some 5, .mov (.t 26), none, [0, 0], []⟩])
(.ret))))),
[.t 5], 27⟩
theorem v_fit_Most_1_ok : compF Tryz.prog 24 = some v_fit_Most_1 := by kernel_rfl
def v_fit_check : VFn := ⟨.seq (.reg [⟨some 2, .box (.t 0), none, [], []⟩,
 ⟨some 4, .mov (.c (.int .i64 0)), none, [], []⟩])
(.seq (.seq (.reg [⟨some 8, .fad 0 (.t 2), none, [], []⟩,
 ⟨some 9, .load 1 false (.t 8), none, [0], []⟩,
 ⟨some 10, .fad 1 (.t 2), none, [], []⟩,
 ⟨some 11, .load 1 false (.t 10), none, [2], []⟩,
 ⟨some 12, .fad 2 (.t 2), none, [], []⟩,
 ⟨some 13, .load 1 false (.t 12), none, [4], []⟩,
 ⟨some 14, .bsl 1 [(.t 9), (.t 11), (.t 13)], none, [1, 3, 5], []⟩,
 ⟨some 15, .call 55 [(.t 14)], none, [6], []⟩,
 ⟨some 16, .un .not (.t 15), none, [7], []⟩])
(.cond (.t 16)
 (.seq (.reg [⟨some 4, .mov (.c (.int .i64 5)), none, [], []⟩])
 (.ret))
 (.skip)))
(.seq (.reg [⟨some 17, .fad 3 (.t 2), none, [], []⟩,
 ⟨some 18, .load 1 false (.t 17), none, [0], []⟩,
 ⟨some 19, .call 34 [(.t 18)], none, [1], []⟩,
 ⟨some 5, .mov (.t 19), none, [2, 2, 0, 1, 2], []⟩])
(.seq (.seq (.reg [⟨some 20, .mov (.t 1), none, [], []⟩,
 ⟨some 21, .len (.t 20), none, [0], []⟩,
 ⟨some 22, .mov (.c (.int .i64 0)), none, [], []⟩])
(.block 0
 (.loop
 (.seq (.reg [⟨some 23, .bin .lss (.t 22) (.t 21), none, [], []⟩])
 (.seq (.cond (.t 23)
 (.skip)
 (.exit 0))
 (.seq (.block 1
 (.seq (.reg [⟨some 24, .iad 4 (.t 20) (.t 22), none, [], []⟩,
 ⟨some 25, .load 4 true (.t 24), none, [0], []⟩,
 ⟨some 7, .alloc [(.int .u8 0), (.int .i64 0), (.int .i64 0), (.int .i64 0)], none, [], []⟩,
 ⟨none, .store 4 (.t 7) (.t 25), none, [2, 1, 0, 1, 2], []⟩])
 (.seq (.seq (.reg [⟨some 26, .fad 0 (.t 7), none, [], []⟩,
 ⟨some 27, .load 1 false (.t 26), none, [0], []⟩,
 ⟨some 28, .bin .gtr (.t 27) (.c (.int .u8 2)), none, [1], []⟩])
 (.cond (.t 28)
 (.seq (.reg [⟨some 4, .mov (.c (.int .i64 2)), none, [], []⟩])
 (.ret))
 (.skip)))
 (.reg [⟨some 29, .mov (.t 5), none, [], []⟩,
 ⟨some 30, .mov (.t 29), none, [0], []⟩,
 ⟨some 31, .fad 0 (.t 7), some (30, false), [1], []⟩,
 ⟨some 32, .load 1 false (.t 31), some (30, false), [2, 1], []⟩,
 ⟨some 33, .bin .eql (.t 32) (.c (.int .u8 1)), some (30, false), [3, 1], []⟩,
 ⟨some 34, .mov (.t 33), some (30, false), [4, 1, 1], []⟩,
 ⟨some 35, .fad 1 (.t 7), some (34, true), [5], []⟩,
 ⟨some 36, .load 2 true (.t 35), some (34, true), [6, 5], []⟩,
 ⟨some 37, .call 35 [(.t 36)], some (34, true), [7, 5, 5], []⟩,
 ⟨some 38, .un .not (.t 37), some (34, true), [8, 5], []⟩,
 ⟨some 39, .pick (.t 34) (.t 38) (.c (.bool false)), some (30, false), [5, 9, 1], []⟩,
 ⟨some 40, .pick (.t 30) (.c (.bool true)) (.t 39), none, [1, 10], []⟩,
 ⟨some 5, .mov (.t 40), none, [11, 8, 0, 1, 2, 3, 4, 5, 6, 7, 8, 9, 10, 11], []⟩]))))
 (.reg [⟨some 41, .bin .add (.t 22) (.c (.int .i64 1)), none, [], []⟩,
 ⟨some 22, .mov (.t 41), none, [0], []⟩])))))))
(.seq (.seq (.reg [⟨some 42, .mov (.t 5), none, [], []⟩])
(.cond (.t 42)
 (.seq (.reg [⟨some 4, .mov (.c (.int .i64 10)), none, [], []⟩])
 (.ret))
 (.skip)))
(.seq (.reg [⟨some 4, .mov (.c (.int .i64 0)), none, [], []⟩])
(.ret)))))),
[.t 4], 43⟩
theorem v_fit_check_ok : compF Tryz.prog 31 = some v_fit_check := by kernel_rfl
def v_fit_all : VFn := ⟨.seq (.reg [⟨some 2, .box (.t 0), none, [], []⟩,
 ⟨some 4, .mov (.c (.sl [] .full)), none, [], []⟩,
 ⟨some 5, .mov (.c (.int .i64 0)), none, [1], []⟩])
(.seq (.reg [⟨some 11, .load 2 true (.c (.iptr (.agg [(.int .i64 1125899906842624), (.int .i64 1125899906842624)]) 0)), none, [], []⟩,
 ⟨some 12, .fad 3 (.t 2), none, [], []⟩,
 ⟨some 13, .load 1 false (.t 12), none, [1], []⟩,
 ⟨some 14, .call 56 [(.t 11), (.t 13)], none, [0, 2], []⟩,
 ⟨some 6, .mov (.t 14), none, [3, 3, 0, 1, 2, 3], []⟩])
(.seq (.seq (.reg [⟨some 15, .mov (.t 1), none, [], []⟩,
 ⟨some 16, .len (.t 15), none, [0], []⟩,
 ⟨some 17, .mov (.c (.int .i64 0)), none, [], []⟩])
(.block 0
 (.loop
 (.seq (.reg [⟨some 18, .bin .lss (.t 17) (.t 16), none, [], []⟩])
 (.seq (.cond (.t 18)
 (.skip)
 (.exit 0))
 (.seq (.block 1
 (.seq (.reg [⟨some 19, .iad 4 (.t 15) (.t 17), none, [], []⟩,
 ⟨some 20, .load 4 true (.t 19), none, [0], []⟩,
 ⟨some 8, .alloc [(.int .u8 0), (.int .i64 0), (.int .i64 0), (.int .i64 0)], none, [], []⟩,
 ⟨none, .store 4 (.t 8) (.t 20), none, [2, 1, 0, 1, 2], []⟩])
 (.seq (.dreg [⟨some 22, .call 57 [], none, [], []⟩,
 ⟨some 23, .fad 0 (.t 8), none, [], []⟩,
 ⟨some 24, .load 1 false (.t 23), none, [1], []⟩,
 ⟨some 25, .ixa 3 1 true (.t 22) (.t 24), none, [0, 2], []⟩,
 ⟨some 26, .fld 0 1 false (.t 25), none, [3], []⟩,
 ⟨some 27, .load 4 true (.t 2), none, [], []⟩,
 ⟨some 28, .load 4 true (.t 8), none, [], []⟩,
 ⟨some 29, .callv (.t 26) [(.t 27), (.t 28)], none, [4, 5, 6, 0], [(0, 0)]⟩,
 ⟨some 21, .mov (.t 29), none, [7], []⟩,
 ⟨some 30, .ext (.t 21) 0, none, [8], []⟩,
 ⟨some 31, .ext (.t 21) 1, none, [8], []⟩,
 ⟨some 9, .mov (.t 30), none, [9, 7, 0, 1, 2, 3, 4, 5, 6, 7, 8, 9], []⟩,
 ⟨some 10, .mov (.t 31), none, [10, 11, 0, 1, 2, 3, 4, 5, 6, 7, 8, 9, 10, 11], []⟩])
 (.seq (.seq (.reg [⟨some 32, .mov (.t 10), none, [], []⟩,
 ⟨some 33, .bin .neq (.t 32) (.c (.int .i64 0)), none, [0], []⟩])
 (.cond (.t 33)
 (.seq (.reg [⟨some 34, .mov (.t 10), none, [], []⟩,
 ⟨some 4, .mov (.c (.sl [] .full)), none, [], []⟩,
 ⟨some 5, .mov (.t 34), none, [0, 1, 0, 1], []⟩])
 (.ret))
 (.skip)))
 (.seq (.reg [⟨some 36, .mov (.t 6), none, [], []⟩,
 ⟨some 37, .mov (.t 9), none, [], []⟩,
 ⟨some 38, .call 58 [(.t 36), (.t 37)], none, [0, 1], []⟩,
 ⟨some 35, .mov (.t 38), none, [2], []⟩,
 ⟨some 39, .ext (.t 35) 0, none, [3], []⟩,
 ⟨some 40, .ext (.t 35) 1, none, [3], []⟩,
 ⟨some 6, .mov (.t 39), none, [4, 2, 0, 1, 2, 3, 4], []⟩,
 ⟨some 10, .mov (.t 40), none, [5, 6, 0, 1, 2, 3, 4, 5, 6], []⟩])
 (.seq (.reg [⟨some 41, .mov (.t 10), none, [], []⟩,
 ⟨some 42, .bin .neq (.t 41) (.c (.int .i64 0)), none, [0], []⟩])
 (.cond (.t 42)
 (.seq (.reg [⟨some 43, .mov (.t 10), none, [], []⟩,
 ⟨some 4, .mov (.c (.sl [] .full)), none, [], []⟩,
 ⟨some 5, .mov (.t 43), none, [0, 1, 0, 1], []⟩])
 (.ret))
 (.skip))))))))
 (.reg [⟨some 44, .bin .add (.t 17) (.c (.int .i64 1)), none, [], []⟩,
 ⟨some 17, .mov (.t 44), none, [0], []⟩])))))))
(.seq (.reg [⟨some 45, .mov (.t 6), none, [], []⟩,
 ⟨some 4, .mov (.t 45), none, [0, 0], []⟩,
 ⟨some 5, .mov (.c (.int .i64 0)), none, [1, 0, 1], []⟩])
(.ret)))),
[.t 4, .t 5], 46⟩
theorem v_fit_all_ok : compF Tryz.prog 32 = some v_fit_all := by kernel_rfl
def v_fit_behind : VFn := ⟨.seq (.reg [⟨some 4, .mov (.c (.sl [] .full)), none, [], []⟩])
(.seq (.reg [⟨some 10, .mov (.t 1), none, [], []⟩,
 ⟨some 11, .mov (.t 0), none, [], []⟩,
 ⟨some 12, .mov (.t 1), none, [], []⟩,
 ⟨some 13, .call 59 [(.t 11), (.t 12)], none, [1, 2], []⟩,
 ⟨some 14, .build [(.int .i64 0), (.int .i64 0), (.int .i64 0)] [(0, 1, (.t 10)), (1, 2, (.t 13))], none, [0, 3], []⟩,
 ⟨some 15, .bsl 3 [(.t 14)], none, [4], []⟩,
 ⟨some 5, .mov (.t 15), none, [5, 3, 0, 1, 2, 3, 4, 5], []⟩])
(.seq (.seq (.reg [⟨some 16, .mov (.t 0), none, [], []⟩,
 ⟨some 17, .len (.t 16), none, [0], []⟩,
 ⟨some 18, .mov (.c (.int .i64 0)), none, [], []⟩])
(.block 0
 (.loop
 (.seq (.reg [⟨some 19, .bin .lss (.t 18) (.t 17), none, [], []⟩])
 (.seq (.cond (.t 19)
 (.skip)
 (.exit 0))
 (.seq (.block 1
 (.seq (.reg [⟨some 20, .iad 3 (.t 16) (.t 18), none, [], []⟩,
 ⟨some 21, .load 3 true (.t 20), none, [0], []⟩,
 ⟨some 7, .alloc [(.int .i64 0), (.int .i64 0), (.int .i64 0)], none, [], []⟩,
 ⟨none, .store 3 (.t 7) (.t 21), none, [2, 1, 0, 1, 2], []⟩])
 (.seq (.reg [⟨some 22, .fad 0 (.t 7), none, [], []⟩,
 ⟨some 23, .load 1 false (.t 22), none, [0], []⟩,
 ⟨some 24, .mov (.t 1), none, [], []⟩,
 ⟨some 25, .bin .gtr (.t 23) (.t 24), none, [1, 2], []⟩])
 (.cond (.t 25)
 (.reg [⟨some 26, .mov (.t 5), none, [], []⟩,
 ⟨some 27, .load 3 true (.t 7), none, [], []⟩,
 ⟨some 28, .bsl 3 [(.t 27)], none, [1], []⟩,
 ⟨some 29, .app 3 24 (.t 26) (.t 28), none, [0, 2], []⟩,
 ⟨some 5, .mov (.t 29), none, [3, 3, 0, 1, 2, 3], []⟩])
 (.skip)))))
 (.reg [⟨some 30, .bin .add (.t 18) (.c (.int .i64 1)), none, [], []⟩,
 ⟨some 18, .mov (.t 30), none, [0], []⟩])))))))
(.seq (.reg [⟨some 32, .mov (.t 5), none, [], []⟩,
 ⟨some 33, .call 60 [(.t 32)], none, [0], []⟩,
 ⟨some 31, .mov (.t 33), none, [1], []⟩,
 ⟨some 34, .ext (.t 31) 0, none, [2], []⟩,
 ⟨some 35, .ext (.t 31) 1, none, [2], []⟩,
 ⟨some 8, .mov (.t 34), none, [3, 1, 0, 1, 2, 3], []⟩,
 ⟨some 9, .mov (.t 35), none, [4, 5, 0, 1, 2, 3, 4, 5], []⟩])
(.seq (.reg [⟨some 36, .mov (.t 8), none, [], []⟩,
 ⟨some 4, .mov (.t 36), none, [0, 0], []⟩])
(.ret))))),
[.t 4], 37⟩
theorem v_fit_behind_ok : compF Tryz.prog 33 = some v_fit_behind := by kernel_rfl
def v_fit_far : VFn := ⟨.seq (.reg [⟨some 2, .mov (.c (.bool false)), none, [], []⟩])
(.seq (.reg [⟨some 3, .mov (.t 0), none, [], []⟩,
 ⟨some 4, .bin .lss (.t 3) (.c (.int .i64 (-1099511627776))), none, [0], []⟩,
 ⟨some 5, .mov (.t 4), none, [1], []⟩,
 ⟨some 6, .mov (.t 0), some (5, false), [2], []⟩,
 ⟨some 7, .bin .gtr (.t 6) (.c (.int .i64 1099511627776)), some (5, false), [3, 2], []⟩,
 ⟨some 8, .pick (.t 5) (.c (.bool true)) (.t 7), none, [2, 4], []⟩,
 ⟨some 2, .mov (.t 8), none, [5, 2, 0, 1, 2, 3, 4, 5], []⟩])
(.ret)),
[.t 2], 9⟩
theorem v_fit_far_ok : compF Tryz.prog 34 = some v_fit_far := by kernel_rfl
def v_fit_form : VFn := ⟨.seq (.reg [⟨some 2, .mov (.c (.bool false)), none, [], []⟩])
(.seq (.seq (.reg [⟨some 5, .mov (.t 0), none, [], []⟩,
 ⟨some 6, .len (.t 5), none, [0], []⟩,
 ⟨some 7, .mov (.c (.int .i64 0)), none, [], []⟩])
(.block 0
 (.loop
 (.seq (.reg [⟨some 8, .bin .lss (.t 7) (.t 6), none, [], []⟩])
 (.seq (.cond (.t 8)
 (.skip)
 (.exit 0))
 (.seq (.block 1
 (.seq (.reg [⟨some 9, .iad 1 (.t 5) (.t 7), none, [], []⟩,
 ⟨some 10, .load 1 false (.t 9), none, [0], []⟩,
 ⟨some 4, .mov (.t 10), none, [1, 0, 1], []⟩])
 (.seq (.reg [⟨some 11, .mov (.t 4), none, [], []⟩,
 ⟨some 12, .call 23 [(.t 11)], none, [0], []⟩,
 ⟨some 13, .un .not (.t 12), none, [1], []⟩])
 (.cond (.t 13)
 (.seq (.reg [⟨some 2, .mov (.c (.bool false)), none, [], []⟩])
 (.ret))
 (.skip)))))
 (.reg [⟨some 14, .bin .add (.t 7) (.c (.int .i64 1)), none, [], []⟩,
 ⟨some 7, .mov (.t 14), none, [0], []⟩])))))))
(.seq (.reg [⟨some 2, .mov (.c (.bool true)), none, [], []⟩])
(.ret))),
[.t 2], 15⟩
theorem v_fit_form_ok : compF Tryz.prog 55 = some v_fit_form := by kernel_rfl
def v_fit_always : VFn := ⟨.seq (.reg [⟨some 2, .box (.t 0), none, [], []⟩,
 ⟨some 4, .mov (.c (.sl [] .full)), none, [], []⟩])
(.seq (.reg [⟨some 8, .mov (.t 1), none, [], []⟩,
 ⟨some 9, .load 2 true (.t 2), none, [], []⟩,
 ⟨some 10, .build [(.int .i64 0), (.int .i64 0), (.int .i64 0)] [(0, 1, (.t 8)), (1, 2, (.t 9))], none, [0, 1], []⟩,
 ⟨some 11, .bsl 3 [(.t 10)], none, [2], []⟩,
 ⟨some 12, .call 60 [(.t 11)], none, [3], []⟩,
 ⟨some 7, .mov (.t 12), none, [4], []⟩,
 ⟨some 13, .ext (.t 7) 0, none, [5], []⟩,
 ⟨some 14, .ext (.t 7) 1, none, [5], []⟩,
 ⟨some 5, .mov (.t 13), none, [6, 4, 0, 1, 2, 3, 4, 5, 6], []⟩,
 ⟨some 6, .mov (.t 14), none, [7, 8, 0, 1, 2, 3, 4, 5, 6, 7, 8], []⟩])
(.seq (.reg [⟨some 15, .mov (.t 5), none, [], []⟩,
 ⟨some 4, .mov (.t 15), none, [0, 0], []⟩])
(.ret))),
[.t 4], 16⟩
theorem v_fit_always_ok : compF Tryz.prog 56 = some v_fit_always := by kernel_rfl
def v_fit_bounds : VFn := ⟨.seq (.reg [⟨some 0, .alloc [.nilf, .nilf, .nilf], none, [], []⟩])
(.seq (.reg [⟨some 1, .build [.nilf] [(0, 1, (.c (.clo 75 [] [])))], none, [], []⟩,
 ⟨some 2, .build [.nilf] [(0, 1, (.c (.clo 76 [] [])))], none, [], []⟩,
 ⟨some 3, .build [.nilf] [(0, 1, (.c (.clo 77 [] [])))], none, [], []⟩,
 ⟨some 4, .build [.nilf, .nilf, .nilf] [(0, 1, (.t 1)), (1, 1, (.t 2)), (2, 1, (.t 3))], none, [0, 1, 2], []⟩,
 ⟨none, .store 3 (.t 0) (.t 4), none, [3, 0, 1, 2, 3], []⟩])
(.ret)),
[.c 0 3 true], 5⟩
theorem v_fit_bounds_ok : compF Tryz.prog 57 = some v_fit_bounds := by kernel_rfl
def v_fit_commit : VFn := ⟨.seq (.reg [⟨some 2, .box (.t 0), none, [], []⟩,
 ⟨some 3, .box (.t 1), none, [], []⟩,
 ⟨some 4, .mov (.c (.sl [] .full)), none, [], []⟩,
 ⟨some 5, .mov (.c (.int .i64 0)), none, [2], []⟩])
(.seq (.reg [⟨some 6, .fad 0 (.t 2), none, [], []⟩,
 ⟨some 7, .load 1 false (.t 6), none, [0], []⟩,
 ⟨some 8, .fad 1 (.t 2), none, [], []⟩,
 ⟨some 9, .load 1 false (.t 8), none, [2], []⟩,
 ⟨some 10, .call 91 [(.t 7), (.t 9)], none, [1, 3], []⟩,
 ⟨some 11, .ext (.t 10) 0, none, [4], []⟩,
 ⟨some 12, .ext (.t 10) 1, none, [4], []⟩,
 ⟨some 4, .mov (.t 11), none, [5, 4, 0, 1, 2, 3, 4, 5, 6], []⟩,
 ⟨some 5, .mov (.t 12), none, [6, 7, 0, 1, 2, 3, 4, 5, 6, 7], []⟩])
(.ret)),
[.t 4, .t 5], 13⟩
theorem v_fit_commit_ok : compF Tryz.prog 75 = some v_fit_commit := by kernel_rfl
def v_fit_user : VFn := ⟨.seq (.reg [⟨some 2, .box (.t 0), none, [], []⟩,
 ⟨some 3, .box (.t 1), none, [], []⟩,
 ⟨some 4, .mov (.c (.sl [] .full)), none, [], []⟩,
 ⟨some 5, .mov (.c (.int .i64 0)), none, [2], []⟩])
(.seq (.dreg [⟨some 6, .fad 1 (.t 3), none, [], []⟩,
 ⟨some 7, .load 2 true (.t 6), none, [0], []⟩,
 ⟨some 8, .fad 3 (.t 2), none, [], []⟩,
 ⟨some 9, .load 1 false (.t 8), none, [2], []⟩,
 ⟨some 10, .call 56 [(.t 7), (.t 9)], none, [1, 3], []⟩,
 ⟨some 11, .fad 2 (.t 2), none, [], []⟩,
 ⟨some 12, .load 1 false (.t 11), none, [5], []⟩,
 ⟨some 13, .call 91 [(.t 10), (.t 12)], none, [4, 6, 4], [(0, 0)]⟩,
 ⟨some 14, .ext (.t 13) 0, none, [7], []⟩,
 ⟨some 15, .ext (.t 13) 1, none, [7], []⟩,
 ⟨some 4, .mov (.t 14), none, [8, 7, 0, 1, 2, 3, 4, 5, 6, 7, 8, 9], []⟩,
 ⟨some 5, .mov (.t 15), none, [9, 10, 0, 1, 2, 3, 4, 5, 6, 7, 8, 9, 10], []⟩])
(.ret)),
[.t 4, .t 5], 16⟩
theorem v_fit_user_ok : compF Tryz.prog 76 = some v_fit_user := by kernel_rfl
def v_fit_none : VFn := ⟨.seq (.reg [⟨some 2, .box (.t 0), none, [], []⟩,
 ⟨some 3, .box (.t 1), none, [], []⟩,
 ⟨some 4, .mov (.c (.sl [] .full)), none, [], []⟩,
 ⟨some 5, .mov (.c (.int .i64 0)), none, [2], []⟩])
(.seq (.reg [⟨some 6, .load 2 true (.c (.iptr (.agg [(.int .i64 1125899906842624), (.int .i64 1125899906842624)]) 0)), none, [], []⟩,
 ⟨some 7, .fad 3 (.t 2), none, [], []⟩,
 ⟨some 8, .load 1 false (.t 7), none, [1], []⟩,
 ⟨some 9, .call 56 [(.t 6), (.t 8)], none, [0, 2], []⟩,
 ⟨some 4, .mov (.t 9), none, [3, 3, 0, 1, 2, 3], []⟩,
 ⟨some 5, .mov (.c (.int .i64 0)), none, [4, 0, 1, 2, 3, 4], []⟩])
(.ret)),
[.t 4, .t 5], 10⟩
theorem v_fit_none_ok : compF Tryz.prog 77 = some v_fit_none := by kernel_rfl
end Go.Proofs.YtglekfgoadehbaaGreatDoor.V
end
section
/- What the package fit's functions compute: far, window, Fits. -/
namespace Go.Proofs.YtglekfgoadehbaaGreatDoor.V
open Go Go.Proofs
set_option maxRecDepth 100000
set_option maxHeartbeats 4000000
theorem farfit_v (n : Int) : VPure Tryz.prog 34 [.int .i64 n] (.bool (farF n)) := by
  refine VPure.of v_fit_far_ok (Nat.le_of_ble_eq_true rfl) (fun Z st => ?_)
  simp only [v_fit_far, ↓vD, vU, ↓vMd, vMu, vZ, seval, k_app, k_slc1]
  unfold farF
  (repeat' (first | (simp (maxDischargeDepth := 16) only [*, vX, ↓vD, vU, ↓vMd, vMu, vZ, seval]) | (simp (disch := first | assumption | omega | rfl | exact fun _ => rfl) only [vP]) | ((with_reducible first | apply gsnd | apply csnd | apply gsd | apply csd | apply gsn | apply csn | apply gs | apply cs_) <;> intro _)))
  (all_goals (first | rfl | (simp_all; done) | (simp_all <;> omega)))
def winE (f : List Seg) (t d : Int) (v : Vec) : Int := if mayF f then (if d < 1 ∨ 4096 < d then 2 else if farF t || !mayV v then 10 else 0) else 5
theorem window_c {Z : Im} {st : St} (f : List Seg) (hn : f.length ≤ 1000000) (n d : Int) (v : Vec) (t : Tok) {g : Nat} {fs cs : List AV} {K : AV → St → Prop} (hg : winE f n d v = 0 → VCalls Tryz.prog Z g (fs ++ [] ++ cs) st K) :
    VCalls Tryz.prog Z 14 [.sl (f.map Seg.a) t, num n, num d, v.a, .clo g fs cs] st (fun r s => if winE f n d v = 0 then K r s else r = num (winE f n d v) ∧ s = st) := by
  have hmay := May_F f (by omega) t
  obtain ⟨mf, hmf⟩ : ∃ m, mayF f = m := ⟨_, rfl⟩
  rw [hmf] at hmay
  have hfar := farfit_v n
  obtain ⟨a, ha⟩ : ∃ a, farF n = a := ⟨_, rfl⟩
  have hm := May_v v.m v.c
  obtain ⟨b, hb⟩ : ∃ b, mayV ⟨v.m, v.c⟩ = b := ⟨_, rfl⟩
  have hE : winE f n d v = if mf then (if d < 1 ∨ 4096 < d then 2 else if a || !b then 10 else 0) else 5 := by unfold winE; rw [hmf, ha, ← hb]
  rw [ha] at hfar
  rw [hb] at hm
  obtain ⟨e, he⟩ : ∃ e, winE f n d v = e := ⟨_, rfl⟩
  rw [he] at hE hg ⊢
  clear hmf ha hb he
  have fin : ∀ e', e = e' → e' ≠ 0 → (∃ s, s.le st ∧ (if e = 0 then K (num e') s else num e' = num e ∧ s = st)) := fun e' h1 h2 => ⟨st, St.le.refl _, by rw [if_neg (by omega)]; exact ⟨by rw [h1], rfl⟩⟩
  by_cases h0 : e = 0
  · subst h0
    have hg' := hg rfl
    simp only [if_true]
    have hc : mf = true ∧ (¬ d < 1 ∧ ¬ 4096 < d) ∧ a = false ∧ b = true := by
      cases mf with
      | false => simp at hE
      | true =>
        rw [if_pos rfl] at hE
        by_cases hd : d < 1 ∨ 4096 < d
        · rw [if_pos hd] at hE; omega
        · rw [if_neg hd] at hE
          cases a <;> cases b <;> simp at hE ⊢
          omega
    obtain ⟨rfl, ⟨d1, d2⟩, rfl, rfl⟩ := hc
    clear hE fin hg
    refine VCalls.sm ?_
    refine VCalls.of v_fit_window_ok (Nat.le_of_ble_eq_true rfl) ?_
    simp only [v_fit_window, ↓vD, vU, ↓vMd, vMu, vZ, seval, k_app, k_slc1]
    (repeat' (first | (simp (maxDischargeDepth := 16) only [*, num, Vec.a, vX, ↓vD, vU, ↓vMd, vMu, vZ, seval]) | (simp (disch := first | assumption | omega | rfl | exact fun _ => rfl) only [num, Vec.a, vP]) | ((with_reducible first | apply gsnd | apply csnd | apply gsd | apply csd | apply gsn | apply csn | apply gs | apply cs_) <;> intro _) | (with_reducible refine objQ_i (fun _ _ => ?_); repeat with_reducible refine imp_i (fun _ => ?_)) | (with_reducible first | refine callH_use (hmay) ?_ | refine pureQ_use (hmay) ?_) | (with_reducible first | refine callH_use (hfar) ?_ | refine pureQ_use (hfar) ?_) | (with_reducible first | refine callH_use (hm) ?_ | refine pureQ_use (hm) ?_)))
    rename_i b8 h8
    rw [List.append_nil] at hg'
    refine callH_then (hg'.frame b8 _ h8) ?_
    rintro r _ ⟨s', hK, hb8, rfl⟩
    (repeat' (first | (simp (maxDischargeDepth := 16) only [*, vX, ↓vD, vU, ↓vMd, vMu, vZ, seval]) | (simp (disch := first | assumption | omega | rfl | exact fun _ => rfl) only [vP]) | ((with_reducible first | apply gsnd | apply csnd | apply gsd | apply csd | apply gsn | apply csn | apply gs | apply cs_) <;> intro _) | (with_reducible refine objQ_i (fun _ _ => ?_); repeat with_reducible refine imp_i (fun _ => ?_))))
    exact ⟨_, St.le.refl _, s', hK, by (refine ⟨fun i o e => ?_, fun _ h => h⟩; revert e; simp only [St.ins, St.del, add_objs, kill_objs]; (repeat' split); all_goals (first | exact id | (intros; contradiction) | (intros; subst_vars; contradiction) | (intros; simp_all; done) | (intros; subst_vars; simp_all; done)))⟩
  · simp only [h0, if_false]
    refine VCalls.of v_fit_window_ok (Nat.le_of_ble_eq_true rfl) ?_
    simp only [v_fit_window, ↓vD, vU, ↓vMd, vMu, vZ, seval, k_app, k_slc1]
    have HE := Hid.mk hE
    clear hE fin hg
    cases mf with
    | false =>
      have e1 : e = 5 := by rw [HE.out]; rfl
      clear HE
      subst e1
      (repeat' (first | (simp (maxDischargeDepth := 16) only [*, num, Vec.a, vX, ↓vD, vU, ↓vMd, vMu, vZ, seval]) | (simp (disch := first | assumption | omega | rfl | exact fun _ => rfl) only [num, Vec.a, vP]) | ((with_reducible first | apply gsnd | apply csnd | apply gsd | apply csd | apply gsn | apply csn | apply gs | apply cs_) <;> intro _) | (with_reducible refine objQ_i (fun _ _ => ?_); repeat with_reducible refine imp_i (fun _ => ?_)) | (with_reducible first | refine callH_use (hmay) ?_ | refine pureQ_use (hmay) ?_) | (with_reducible first | refine callH_use (hfar) ?_ | refine pureQ_use (hfar) ?_) | (with_reducible first | refine callH_use (hm) ?_ | refine pureQ_use (hm) ?_)))
      all_goals first | done | exact ⟨_, by (refine ⟨fun i o e => ?_, fun _ h => h⟩; revert e; simp only [St.ins, St.del, add_objs, kill_objs]; (repeat' split); all_goals (first | exact id | (intros; contradiction) | (intros; subst_vars; contradiction) | (intros; simp_all; done) | (intros; subst_vars; simp_all; done))), rfl, rfl⟩
    | true =>
      by_cases d1 : d < 1
      · have e1 : e = 2 := by rw [HE.out, if_pos rfl, if_pos (.inl d1)]
        clear HE
        subst e1
        (repeat' (first | (simp (maxDischargeDepth := 16) only [*, num, Vec.a, vX, ↓vD, vU, ↓vMd, vMu, vZ, seval]) | (simp (disch := first | assumption | omega | rfl | exact fun _ => rfl) only [num, Vec.a, vP]) | ((with_reducible first | apply gsnd | apply csnd | apply gsd | apply csd | apply gsn | apply csn | apply gs | apply cs_) <;> intro _) | (with_reducible refine objQ_i (fun _ _ => ?_); repeat with_reducible refine imp_i (fun _ => ?_)) | (with_reducible first | refine callH_use (hmay) ?_ | refine pureQ_use (hmay) ?_) | (with_reducible first | refine callH_use (hfar) ?_ | refine pureQ_use (hfar) ?_) | (with_reducible first | refine callH_use (hm) ?_ | refine pureQ_use (hm) ?_)))
        all_goals first | done | exact ⟨_, by (refine ⟨fun i o e => ?_, fun _ h => h⟩; revert e; simp only [St.ins, St.del, add_objs, kill_objs]; (repeat' split); all_goals (first | exact id | (intros; contradiction) | (intros; subst_vars; contradiction) | (intros; simp_all; done) | (intros; subst_vars; simp_all; done))), rfl, rfl⟩
      by_cases d2 : 4096 < d
      · have e1 : e = 2 := by rw [HE.out, if_pos rfl, if_pos (.inr d2)]
        clear HE
        subst e1
        (repeat' (first | (simp (maxDischargeDepth := 16) only [*, num, Vec.a, vX, ↓vD, vU, ↓vMd, vMu, vZ, seval]) | (simp (disch := first | assumption | omega | rfl | exact fun _ => rfl) only [num, Vec.a, vP]) | ((with_reducible first | apply gsnd | apply csnd | apply gsd | apply csd | apply gsn | apply csn | apply gs | apply cs_) <;> intro _) | (with_reducible refine objQ_i (fun _ _ => ?_); repeat with_reducible refine imp_i (fun _ => ?_)) | (with_reducible first | refine callH_use (hmay) ?_ | refine pureQ_use (hmay) ?_) | (with_reducible first | refine callH_use (hfar) ?_ | refine pureQ_use (hfar) ?_) | (with_reducible first | refine callH_use (hm) ?_ | refine pureQ_use (hm) ?_)))
        all_goals first | done | exact ⟨_, by (refine ⟨fun i o e => ?_, fun _ h => h⟩; revert e; simp only [St.ins, St.del, add_objs, kill_objs]; (repeat' split); all_goals (first | exact id | (intros; contradiction) | (intros; subst_vars; contradiction) | (intros; simp_all; done) | (intros; subst_vars; simp_all; done))), rfl, rfl⟩
      have e1 : e = 10 ∧ (a = true ∨ b = false) := by
        have := HE.out
        rw [if_pos rfl, if_neg (by omega)] at this
        cases a <;> cases b <;> simp at this <;> first | omega | (refine ⟨this, ?_⟩; simp)
      obtain ⟨rfl, hab⟩ := e1
      clear HE
      cases a with
      | true =>
        clear hab
        (repeat' (first | (simp (maxDischargeDepth := 16) only [*, num, Vec.a, vX, ↓vD, vU, ↓vMd, vMu, vZ, seval]) | (simp (disch := first | assumption | omega | rfl | exact fun _ => rfl) only [num, Vec.a, vP]) | ((with_reducible first | apply gsnd | apply csnd | apply gsd | apply csd | apply gsn | apply csn | apply gs | apply cs_) <;> intro _) | (with_reducible refine objQ_i (fun _ _ => ?_); repeat with_reducible refine imp_i (fun _ => ?_)) | (with_reducible first | refine callH_use (hmay) ?_ | refine pureQ_use (hmay) ?_) | (with_reducible first | refine callH_use (hfar) ?_ | refine pureQ_use (hfar) ?_) | (with_reducible first | refine callH_use (hm) ?_ | refine pureQ_use (hm) ?_)))
        all_goals first | done | exact ⟨_, by (refine ⟨fun i o e => ?_, fun _ h => h⟩; revert e; simp only [St.ins, St.del, add_objs, kill_objs]; (repeat' split); all_goals (first | exact id | (intros; contradiction) | (intros; subst_vars; contradiction) | (intros; simp_all; done) | (intros; subst_vars; simp_all; done))), rfl, rfl⟩
      | false =>
        obtain rfl : b = false := by simpa using hab
        clear hab
        (repeat' (first | (simp (maxDischargeDepth := 16) only [*, num, Vec.a, vX, ↓vD, vU, ↓vMd, vMu, vZ, seval]) | (simp (disch := first | assumption | omega | rfl | exact fun _ => rfl) only [num, Vec.a, vP]) | ((with_reducible first | apply gsnd | apply csnd | apply gsd | apply csd | apply gsn | apply csn | apply gs | apply cs_) <;> intro _) | (with_reducible refine objQ_i (fun _ _ => ?_); repeat with_reducible refine imp_i (fun _ => ?_)) | (with_reducible first | refine callH_use (hmay) ?_ | refine pureQ_use (hmay) ?_) | (with_reducible first | refine callH_use (hfar) ?_ | refine pureQ_use (hfar) ?_) | (with_reducible first | refine callH_use (hm) ?_ | refine pureQ_use (hm) ?_)))
        all_goals first | done | exact ⟨_, by (refine ⟨fun i o e => ?_, fun _ h => h⟩; revert e; simp only [St.ins, St.del, add_objs, kill_objs]; (repeat' split); all_goals (first | exact id | (intros; contradiction) | (intros; subst_vars; contradiction) | (intros; simp_all; done) | (intros; subst_vars; simp_all; done))), rfl, rfl⟩
def fitsF (f : List Seg) (n d : Int) (v : Vec) : Bool × Int := if winE f n d v = 0 then (leW v (leastF minV f n (n + d)), 0) else (false, winE f n d v)
theorem win_ok {f : List Seg} {n d : Int} {v : Vec} (h : winE f n d v = 0) : mayF f = true ∧ 1 ≤ d ∧ d ≤ 4096 ∧ farF n = false ∧ mayV v = true ∧ -1099511627776 ≤ n ∧ n ≤ 1099511627776 := by
  unfold winE at h
  cases hm : mayF f <;> rw [hm] at h
  · simp at h
  · simp only [if_true] at h
    split at h
    · omega
    · split at h
      · omega
      · rename_i h1 h2
        simp only [Bool.or_eq_true, not_or, Bool.not_eq_true, Bool.not_eq_false'] at h2
        have := h2.1
        simp only [farF, Bool.or_eq_false_iff, decide_eq_false_iff_not] at this
        exact ⟨rfl, by omega, by omega, h2.1, by simpa using h2.2, by omega, by omega⟩
theorem over_ok {f : List Seg} {n d : Int} {v : Vec} (h : winE f n d v = 0) : overE f n (n + d) = 0 := by
  obtain ⟨h1, h2, h3, h4, h5, h6, h7⟩ := win_ok h
  unfold overE
  rw [h1, if_pos rfl, if_pos (by omega)]
theorem Fits_c (f : List Seg) (hn : f.length ≤ 1000000) (n d : Int) (v : Vec) (t : Tok) :
    VPure Tryz.prog 5 [.sl (f.map Seg.a) t, num n, num d, v.a] (.tup [.bool (fitsF f n d v).1, num (fitsF f n d v).2]) := fun Z st => by
  refine VCalls.of v_fit_Fits_ok (Nat.le_of_ble_eq_true rfl) ?_
  simp only [v_fit_Fits, ↓vD, vU, ↓vMd, vMu, vZ, seval, k_app, k_slc1]
  (repeat' (first | (simp (maxDischargeDepth := 16) only [*, num, Vec.a, vX, ↓vD, vU, ↓vMd, vMu, vZ, seval]) | (simp (disch := first | assumption | omega | rfl | exact fun _ => rfl) only [num, Vec.a, vP]) | ((with_reducible first | apply gsnd | apply csnd | apply gsd | apply csd | apply gsn | apply csn | apply gs | apply cs_) <;> intro _) | (with_reducible refine objQ_i (fun _ _ => ?_); repeat with_reducible refine imp_i (fun _ => ?_))))
  (rename_i b4 hb4 b5 hb5 n_b5_b4 n_b4_b5 b6 hb6 n_b6_b4 n_b4_b6 n_b6_b5 n_b5_b6 b7 hb7 n_b7_b4 n_b4_b7 n_b7_b5 n_b5_b7 n_b7_b6 n_b6_b7 b8 hb8 n_b8_b4 n_b4_b8 n_b8_b5 n_b5_b8 n_b8_b6 n_b6_b8 n_b8_b7 n_b7_b8)
  have hLow := Low_c f hn n (n + d) t
  have hLE := LE_v v.m v.c
  obtain ⟨w, hw⟩ : ∃ w, leastF minV f n (n + d) = w := ⟨_, rfl⟩
  rw [hw] at hLow
  have HF : Hid (fitsF f n d v = if winE f n d v = 0 then (decide (v.m ≤ w.m) && decide (v.c ≤ w.c), 0) else (false, winE f n d v)) := ⟨by unfold fitsF; rw [hw]; rfl⟩
  clear hw
  refine callH_then (window_c (K := fun r s => r = num 0 ∧ s = ((((st.ins b4 (.cells [.sl (f.map Seg.a) t])).ins b5 (.cells [.int .i64 n])).ins b6 (.cells [.int .i64 d])).ins b7 (.cells [.int .i64 v.m, .int .i64 v.c])).ins b8 (.cells [.bool (decide (v.m ≤ w.m) && decide (v.c ≤ w.c))])) f hn n d v t ?_) ?_
  · intro hE
    have hO := over_ok hE
    rw [hO, if_pos rfl] at hLow
    obtain ⟨_, d1, d2, _, _, d3, d4⟩ := win_ok hE
    have hwr : IntKind.i64.wrap (n + d) = n + d := wrap_i64 _ (by omega) (by omega)
    simp only [num, Vec.a] at hLow
    clear hE hO
    refine VCalls.of v_fit_Fits_1_ok (Nat.le_of_ble_eq_true rfl) ?_
    simp only [v_fit_Fits_1, List.nil_append, List.cons_append, ↓vD, vU, ↓vMd, vMu, vZ, seval, k_app, k_slc1]
    (repeat' (first | (simp (maxDischargeDepth := 16) only [*, num, Vec.a, vX, ↓vD, vU, ↓vMd, vMu, vZ, seval]) | (simp (disch := first | assumption | omega | rfl | exact fun _ => rfl) only [num, Vec.a, vP]) | ((with_reducible first | apply gsnd | apply csnd | apply gsd | apply csd | apply gsn | apply csn | apply gs | apply cs_) <;> intro _) | (with_reducible refine objQ_i (fun _ _ => ?_); repeat with_reducible refine imp_i (fun _ => ?_)) | (with_reducible first | refine callH_use (hLow) ?_ | refine pureQ_use (hLow) ?_) | (with_reducible first | refine callH_use (hLE _ _) ?_ | refine pureQ_use (hLE _ _) ?_)))
    all_goals first | done | exact ⟨_, by (refine ⟨fun i o e => ?_, fun _ h => h⟩; revert e; simp only [St.ins, St.del, add_objs, kill_objs]; (repeat' split); all_goals (first | exact id | (intros; contradiction) | (intros; subst_vars; contradiction) | (intros; simp_all; done) | (intros; subst_vars; simp_all; done))), rfl, rfl⟩ | (refine ⟨fun i o e => ?_, fun _ h => h⟩; revert e; simp only [St.ins, St.del, add_objs, kill_objs]; (repeat' split); all_goals (first | exact id | (intros; contradiction) | (intros; subst_vars; contradiction) | (intros; simp_all; done) | (intros; subst_vars; simp_all; done)))
  · rintro r s hK
    obtain ⟨E, hE⟩ : ∃ E, winE f n d v = E := ⟨_, rfl⟩
    rw [hE] at hK HF
    by_cases h0 : E = 0
    · subst h0
      rw [if_pos rfl] at hK HF
      rw [HF.out]
      obtain ⟨rfl, rfl⟩ := hK
      (repeat' (first | (simp (maxDischargeDepth := 16) only [*, num, Vec.a, vX, ↓vD, vU, ↓vMd, vMu, vZ, seval]) | (simp (disch := first | assumption | omega | rfl | exact fun _ => rfl) only [num, Vec.a, vP]) | ((with_reducible first | apply gsnd | apply csnd | apply gsd | apply csd | apply gsn | apply csn | apply gs | apply cs_) <;> intro _) | (with_reducible refine objQ_i (fun _ _ => ?_); repeat with_reducible refine imp_i (fun _ => ?_))))
      all_goals first | done | exact ⟨_, by (refine ⟨fun i o e => ?_, fun _ h => h⟩; revert e; simp only [St.ins, St.del, add_objs, kill_objs]; (repeat' split); all_goals (first | exact id | (intros; contradiction) | (intros; subst_vars; contradiction) | (intros; simp_all; done) | (intros; subst_vars; simp_all; done))), rfl, rfl⟩
    · rw [if_neg h0] at hK HF
      rw [HF.out]
      obtain ⟨rfl, rfl⟩ := hK
      (repeat' (first | (simp (maxDischargeDepth := 16) only [*, num, Vec.a, vX, ↓vD, vU, ↓vMd, vMu, vZ, seval]) | (simp (disch := first | assumption | omega | rfl | exact fun _ => rfl) only [num, Vec.a, vP]) | ((with_reducible first | apply gsnd | apply csnd | apply gsd | apply csd | apply gsn | apply csn | apply gs | apply cs_) <;> intro _) | (with_reducible refine objQ_i (fun _ _ => ?_); repeat with_reducible refine imp_i (fun _ => ?_))))
      all_goals first | done | exact ⟨_, by (refine ⟨fun i o e => ?_, fun _ h => h⟩; revert e; simp only [St.ins, St.del, add_objs, kill_objs]; (repeat' split); all_goals (first | exact id | (intros; contradiction) | (intros; subst_vars; contradiction) | (intros; simp_all; done) | (intros; subst_vars; simp_all; done))), rfl, rfl⟩
end Go.Proofs.YtglekfgoadehbaaGreatDoor.V
end
section
/- Boxes, windows: plain. -/
namespace Go.Proofs.YtglekfgoadehbaaGreatDoor.V
open Go Go.Proofs Go.Proofs.YtglekfgoadehbaaGreatDoor.SP
theorem box_fold (a b : Int) (v : Vec) (h : a < b) : foldF [⟨a, v⟩, ⟨b, v0⟩] = withF (withF [] a v) b v0 := by
  have hup : (([⟨a, v⟩, ⟨b, v0⟩] : List Seg).map (·.t)).Pairwise (· < ·) := by simp [h]
  unfold foldF
  rw [srt_self hup]
  have := fold_withs [⟨a, v⟩, ⟨b, v0⟩] [] hup
  rw [show lastW [] = v0 from rfl] at this
  rw [this]; rfl
theorem box_fold0 (a : Int) (v : Vec) : foldF [⟨a, v⟩, ⟨a, v0⟩] = [] := by
  have hs : sortS (ltB cmpS) ([⟨a, v⟩, ⟨a, v0⟩] : List Seg) = [⟨a, v⟩, ⟨a, v0⟩] := by
    refine (sortS_of swoS ?_ (Stb.refl _)).symm
    simp [Srt, ltS]
  unfold foldF
  rw [hs]
  simp [foldB, nextB, putF]
theorem box_ref (a b : Int) (v : Vec) (h : a < b) : refF [⟨a, v⟩, ⟨b, v0⟩] = withF (withF [] a v) b v0 := by
  have ht : timesF [a, b] = [a, b] := timesF_self (by simp [h])
  unfold refF
  simp only [List.map_cons, List.map_nil, ht, List.foldl_cons, List.foldl_nil]
  have e1 : rawF [⟨a, v⟩, ⟨b, v0⟩] a = v := by simp [rawF]; omega
  have e2 : rawF [⟨a, v⟩, ⟨b, v0⟩] b = v0 := by simp [rawF]
  rw [e1, e2]
theorem box_ref0 (a : Int) (v : Vec) : refF [⟨a, v⟩, ⟨a, v0⟩] = [] := by
  have ht : timesF [a, a] = [a] := by simp [timesF, insT, cntT]
  unfold refF
  simp only [List.map_cons, List.map_nil, ht, List.foldl_cons, List.foldl_nil]
  have e2 : rawF [⟨a, v⟩, ⟨a, v0⟩] a = v0 := by simp [rawF]
  rw [e2]; rfl
theorem box_same (a b : Int) (v : Vec) : boxF1 a b v = boxF2 a b v := by
  unfold boxF1 boxF2
  split
  · rfl
  · rename_i h
    unfold ofF refOf
    split
    · rcases Int.lt_or_le a b with c | c
      · rw [box_fold a b v c, box_ref a b v c]
      · have : b = a := by omega
        subst this
        rw [box_fold0, box_ref0]
    · rfl
theorem range_do (f : List Seg) (a b : Int) (v : Vec) : rangeC f a b v = rangeR f a b v := by
  unfold rangeC rangeR
  rw [box_same, add_do]
end Go.Proofs.YtglekfgoadehbaaGreatDoor.V
end
section
/- What fits, and units, in plain Lean. -/
namespace Go.Proofs.YtglekfgoadehbaaGreatDoor.V
open Go Go.Proofs
theorem last_stop (t s : Int) (h : t ≤ s) : ∀ l : List Int, ∃ u ∈ t :: l, t ≤ u ∧ u ≤ s ∧ ∀ y ∈ l, ¬ (u < y ∧ y ≤ s)
  | [] => ⟨t, by simp, Int.le_refl _, h, by simp⟩
  | y :: l => by
    obtain ⟨u, h1, h2, h3, h4⟩ := last_stop t s h l
    by_cases hy : u < y ∧ y ≤ s
    · refine ⟨y, by simp, by omega, hy.2, fun z hz => ?_⟩
      rcases List.mem_cons.1 hz with rfl | hz
      · omega
      · have := h4 z hz; omega
    · refine ⟨u, by rcases List.mem_cons.1 h1 with rfl | h1 <;> simp_all, h2, h3, fun z hz => ?_⟩
      rcases List.mem_cons.1 hz with rfl | hz
      · exact hy
      · exact h4 z hz
theorem stops (f : List Seg) (t z : Int) (more : List Int) (p : Vec → Prop) : (∀ s, t ≤ s → s < z → p (atF f s)) ↔ ∀ s ∈ t :: (f.map (·.t) ++ more), t ≤ s → s < z → p (atF f s) := by
  constructor
  · intro h s _ h1 h2; exact h s h1 h2
  · intro h s h1 h2
    obtain ⟨u, g1, g2, g3, g4⟩ := last_stop t s h1 (f.map (·.t) ++ more)
    have e := atF_between f u s g3 (fun x hx => g4 x.t (List.mem_append_left _ (List.mem_map.2 ⟨x, hx, rfl⟩)))
    rw [e]
    exact h u g1 g2 (by omega)
def intoF (f : List Seg) (t d : Int) (v : Vec) : Bool := (t :: f.map (·.t)).all fun s => !((decide (t ≤ s) && decide (s < t + d)) && !leW v (atF f s))
theorem into_iff (f : List Seg) (t d : Int) (v : Vec) : intoF f t d v = true ↔ ∀ s, t ≤ s → s < t + d → leW v (atF f s) = true := by
  have := stops f t (t + d) [] (fun u => leW v u = true)
  rw [List.append_nil] at this
  rw [this]
  unfold intoF
  rw [List.all_eq_true]
  constructor
  · intro h s hs h1 h2
    have := h s hs
    simpa [h1, h2] using this
  · intro h s hs
    simp only [Bool.not_eq_true', Bool.and_eq_false_imp, Bool.and_eq_true, decide_eq_true_eq, Bool.not_eq_false']
    intro ⟨h1, h2⟩
    exact h s hs h1 h2
theorem into_low {f : List Seg} (hf : mayF f = true) (t d : Int) (hd : 1 ≤ d) (v : Vec) : intoF f t d v = leW v (leastF minV f t (t + d)) := by
  have h1 := into_iff f t d v
  have h2 := low_le hf (show t < t + d by omega) v
  cases h : leW v (leastF minV f t (t + d)) with
  | true => exact h1.2 (h2.1 h)
  | false =>
    cases h3 : intoF f t d v with
    | false => rfl
    | true => rw [h2.2 (h1.1 h3)] at h; cases h
def unitsV (v u : Vec) : Int := if v.m < 0 ∨ v.c < 0 then 0 else min (v.m / u.m) (v.c / u.c)
def mulV (k : Int) (u : Vec) : Vec := ⟨k * u.m, k * u.c⟩
theorem unitsV_nn {v u : Vec} (h1 : 1 ≤ u.m) (h2 : 1 ≤ u.c) : 0 ≤ unitsV v u := by
  unfold unitsV
  split
  · omega
  · have := Int.ediv_nonneg (show 0 ≤ v.m by omega) (show 0 ≤ u.m by omega)
    have := Int.ediv_nonneg (show 0 ≤ v.c by omega) (show 0 ≤ u.c by omega)
    omega
theorem unitsV_iff {v u : Vec} (h1 : 1 ≤ u.m) (h2 : 1 ≤ u.c) {k : Int} (hk : 1 ≤ k) : k ≤ unitsV v u ↔ leW (mulV k u) v = true := by
  have e : leW (mulV k u) v = (decide (k * u.m ≤ v.m) && decide (k * u.c ≤ v.c)) := rfl
  rw [e]
  simp only [Bool.and_eq_true, decide_eq_true_eq]
  have p1 : 1 ≤ k * u.m := by have := Int.mul_le_mul hk h1 (by omega) (by omega); omega
  have p2 : 1 ≤ k * u.c := by have := Int.mul_le_mul hk h2 (by omega) (by omega); omega
  unfold unitsV
  split
  · omega
  · rw [Int.le_min, Int.le_ediv_iff_mul_le (by omega), Int.le_ediv_iff_mul_le (by omega)]
def leastU (f : List Seg) (u : Vec) (t d : Int) : List Int → Int → Int
  | [], a => a
  | s :: r, a => if s < t ∨ t + d ≤ s then leastU f u t d r a else leastU f u t d r (if a < 0 ∨ unitsV (atF f s) u < a then unitsV (atF f s) u else a)
theorem leastU_iff {f : List Seg} {u : Vec} (h1 : 1 ≤ u.m) (h2 : 1 ≤ u.c) {t d k : Int} (hk : 0 ≤ k) : ∀ (l : List Int) (a : Int), 0 ≤ a → (k ≤ leastU f u t d l a ↔ k ≤ a ∧ ∀ s ∈ l, t ≤ s → s < t + d → k ≤ unitsV (atF f s) u)
  | [], a, _ => by simp [leastU]
  | s :: r, a, ha => by
    have hn := unitsV_nn (v := atF f s) h1 h2
    unfold leastU
    split
    · rename_i h
      rw [leastU_iff h1 h2 hk r a ha]
      simp only [List.mem_cons, forall_eq_or_imp]
      constructor
      · intro ⟨q1, q2⟩; exact ⟨q1, by omega, q2⟩
      · intro ⟨q1, _, q2⟩; exact ⟨q1, q2⟩
    · rename_i h
      rw [leastU_iff h1 h2 hk r _ (by split <;> omega)]
      simp only [List.mem_cons, forall_eq_or_imp]
      constructor
      · intro ⟨q1, q2⟩; split at q1 <;> exact ⟨by omega, fun _ _ => by omega, q2⟩
      · intro ⟨q1, q0, q2⟩
        have := q0 (by omega) (by omega)
        exact ⟨by split <;> omega, q2⟩
theorem leastU_nn {f : List Seg} {u : Vec} (h1 : 1 ≤ u.m) (h2 : 1 ≤ u.c) {t d : Int} : ∀ (l : List Int) (a : Int), 0 ≤ a → 0 ≤ leastU f u t d l a
  | [], a, h => h
  | s :: r, a, ha => by
    have hn := unitsV_nn (v := atF f s) h1 h2
    unfold leastU
    split
    · exact leastU_nn h1 h2 r a ha
    · exact leastU_nn h1 h2 r _ (by split <;> omega)
theorem units_low {f : List Seg} (hf : mayF f = true) {u : Vec} (h1 : 1 ≤ u.m) (h2 : 1 ≤ u.c) (t d : Int) (hd : 1 ≤ d) : leastU f u t d (t :: f.map (·.t)) (-1) = unitsV (leastF minV f t (t + d)) u := by
  have hn := unitsV_nn (v := atF f t) h1 h2
  have e : leastU f u t d (t :: f.map (·.t)) (-1) = leastU f u t d (f.map (·.t)) (unitsV (atF f t) u) := by
    rw [leastU, if_neg (by omega), if_pos (by omega)]
  rw [e]
  have hn2 := unitsV_nn (v := leastF minV f t (t + d)) h1 h2
  have hn3 := leastU_nn (f := f) (t := t) (d := d) h1 h2 (f.map (·.t)) _ hn
  have key : ∀ k : Int, 1 ≤ k → (k ≤ leastU f u t d (f.map (·.t)) (unitsV (atF f t) u) ↔ k ≤ unitsV (leastF minV f t (t + d)) u) := fun k hk => by
    rw [leastU_iff h1 h2 (by omega) _ _ hn, unitsV_iff h1 h2 hk, unitsV_iff h1 h2 hk, low_le hf (show t < t + d by omega)]
    have := stops f t (t + d) [] (fun w => leW (mulV k u) w = true)
    rw [List.append_nil] at this
    rw [this]
    simp only [List.mem_cons, forall_eq_or_imp]
    constructor
    · intro ⟨q1, q2⟩
      exact ⟨fun _ _ => q1, fun s hs g1 g2 => (unitsV_iff h1 h2 hk).1 (q2 s hs g1 g2)⟩
    · intro ⟨q1, q2⟩
      exact ⟨q1 (Int.le_refl _) (by omega), fun s hs g1 g2 => (unitsV_iff h1 h2 hk).2 (q2 s hs g1 g2)⟩
  rcases Int.lt_trichotomy (leastU f u t d (f.map (·.t)) (unitsV (atF f t) u)) (unitsV (leastF minV f t (t + d)) u) with h | h | h
  · have := (key _ (by omega)).2 (Int.le_refl _); omega
  · exact h
  · have := (key _ (by omega)).1 (Int.le_refl _); omega
end Go.Proofs.YtglekfgoadehbaaGreatDoor.V
end
section
/- Units: vec and liveryref01. -/
namespace Go.Proofs.YtglekfgoadehbaaGreatDoor.V
open Go Go.Proofs
set_option maxRecDepth 100000
set_option maxHeartbeats 4000000
theorem quo_v {x y : Int} (h0 : 0 ≤ x) (hx : x ≤ 9223372036854775807) (h1 : 1 ≤ y) : vbin .quo (.int .i64 x) (.int .i64 y) = some (.int .i64 (x / y)) := by
  have e : x.tdiv y = x / y := Int.tdiv_eq_ediv_of_nonneg h0
  have h2 := Int.ediv_nonneg h0 (show 0 ≤ y by omega)
  have h3 := Int.ediv_le_self y h0
  have hw : IntKind.i64.wrap (x / y) = x / y := wrap_i64 _ (by omega) (by omega)
  have hy : y ≠ 0 := by omega
  simp [vbin, e, hw, hy]
theorem units1_v (x y : Int) (hx : x ≤ 9223372036854775807) (hy : 1 ≤ y) : VPure Tryz.prog 52 [.int .i64 x, .int .i64 y] (.int .i64 (if x < 0 then 0 else x / y)) := by
  refine VPure.of v_vec_Units_1_ok (Nat.le_of_ble_eq_true rfl) (fun Z st => ?_)
  simp only [v_vec_Units_1, ↓vD, vU, ↓vMd, vMu, vZ, seval, k_app, k_slc1]
  by_cases h : x < 0
  · rw [if_pos h]
    (repeat' (first | (simp (maxDischargeDepth := 16) only [*, vX, ↓vD, vU, ↓vMd, vMu, vZ, seval]) | (simp (disch := first | assumption | omega | rfl | exact fun _ => rfl) only [vP]) | ((with_reducible first | apply gsnd | apply csnd | apply gsd | apply csd | apply gsn | apply csn | apply gs | apply cs_) <;> intro _)))
  · rw [if_neg h]
    have hq := quo_v (x := x) (y := y) (by omega) hx hy
    (repeat' (first | (simp (maxDischargeDepth := 16) only [*, hq, vX, ↓vD, vU, ↓vMd, vMu, vZ, seval]) | (simp (disch := first | assumption | omega | rfl | exact fun _ => rfl) only [hq, vP]) | ((with_reducible first | apply gsnd | apply csnd | apply gsd | apply csd | apply gsn | apply csn | apply gs | apply cs_) <;> intro _)))
theorem both_n2 {f : Nat} {fs cs : List AV} {m c m' c' p q : Int} (h1 : VPure Tryz.prog f (fs ++ [.int .i64 m, .int .i64 m'] ++ cs) (.int .i64 p)) (h2 : VPure Tryz.prog f (fs ++ [.int .i64 c, .int .i64 c'] ++ cs) (.int .i64 q)) :
    VPure Tryz.prog 51 [.agg [.int .i64 m, .int .i64 c], .agg [.int .i64 m', .int .i64 c'], .clo f fs cs] (.tup [.int .i64 p, .int .i64 q]) := by
  refine VPure.of v_vec_both_int64_ok (Nat.le_of_ble_eq_true rfl) (fun Z st => ?_)
  simp only [v_vec_both_int64, ↓vD, vU, ↓vMd, vMu, vZ, seval, k_app, k_slc1]
  (repeat' (first | (simp (maxDischargeDepth := 16) only [*, ↓vD, vU, ↓vMd, vMu, vZ, seval, k_app, k_slc1]) | (with_reducible refine gs (fun _ => ?_) (fun _ => ?_)) | (with_reducible refine cs_ (fun _ => ?_) (fun _ => ?_)) | (with_reducible refine objQ_i (fun _ _ => ?_); repeat with_reducible refine imp_i (fun _ => ?_)) | (with_reducible refine appK_a ?_) | (with_reducible first | refine callH_use (h1) ?_ | refine pureQ_use (h1) ?_) | (with_reducible first | refine callH_use (h2) ?_ | refine pureQ_use (h2) ?_)))
def unitsE (v u : Vec) : Int × Int := if u.m < 1 ∨ u.c < 1 then (0, 2) else if mayV v && mayV u then (unitsV v u, 0) else (0, 10)
theorem Units_v (m c m' c' : Int) : VPure Tryz.prog 25 [.agg [.int .i64 m, .int .i64 c], .agg [.int .i64 m', .int .i64 c']] (.tup [.int .i64 (unitsE ⟨m, c⟩ ⟨m', c'⟩).1, .int .i64 (unitsE ⟨m, c⟩ ⟨m', c'⟩).2]) := by
  refine VPure.of v_vec_Units_ok (Nat.le_of_ble_eq_true rfl) (fun Z st => ?_)
  have hL := LE_v 1 1 m' c'
  have hT := told2 m c m' c'
  obtain ⟨E, hE⟩ : ∃ E, unitsE ⟨m, c⟩ ⟨m', c'⟩ = E := ⟨_, rfl⟩
  rw [hE]
  have HE : Hid (unitsE ⟨m, c⟩ ⟨m', c'⟩ = E) := ⟨hE⟩
  clear hE
  by_cases hu : m' < 1 ∨ c' < 1
  · obtain rfl : E = (0, 2) := by rw [← HE.out]; unfold unitsE; rw [if_pos hu]
    clear HE
    have hb : (decide (1 ≤ m') && decide (1 ≤ c')) = false := by
      rw [Bool.and_eq_false_iff]; rcases hu with h | h
      · exact .inl (decide_eq_false (by omega))
      · exact .inr (decide_eq_false (by omega))
    rw [hb] at hL
    simp only [v_vec_Units, ↓vD, vU, ↓vMd, vMu, vZ, seval, k_app, k_slc1]
    (repeat' (first | (simp (maxDischargeDepth := 16) only [*, vX, ↓vD, vU, ↓vMd, vMu, vZ, seval]) | (simp (disch := first | assumption | omega | rfl | exact fun _ => rfl) only [vP]) | ((with_reducible first | apply gsnd | apply csnd | apply gsd | apply csd | apply gsn | apply csn | apply gs | apply cs_) <;> intro _) | (with_reducible refine objQ_i (fun _ _ => ?_); repeat with_reducible refine imp_i (fun _ => ?_)) | (with_reducible first | refine callH_use (hL) ?_ | refine pureQ_use (hL) ?_)))
  have h1 : 1 ≤ m' := by omega
  have h2 : 1 ≤ c' := by omega
  have hb : (decide (1 ≤ m') && decide (1 ≤ c')) = true := by simp [h1, h2]
  rw [hb] at hL
  clear hb
  by_cases hm : (mayV ⟨m, c⟩ && mayV ⟨m', c'⟩) = true
  · have ht : told1 ⟨m, c⟩ [⟨m', c'⟩] = (⟨m, c⟩, 0) := by unfold told1; rw [if_pos (by simpa using hm)]
    rw [ht] at hT
    simp only at hT
    have hr : inR m = true ∧ inR c = true := by simp only [mayV, Bool.and_eq_true] at hm; exact hm.1
    have hr2 : m ≤ 9223372036854775807 ∧ c ≤ 9223372036854775807 := by
      simp only [inR, Bool.and_eq_true, decide_eq_true_eq] at hr
      omega
    have hB := both_n2 (fs := []) (cs := []) (f := 52) (m := m) (c := c) (m' := m') (c' := c') (units1_v m m' hr2.1 h1) (units1_v c c' hr2.2 h2)
    obtain ⟨p, hp⟩ : ∃ p, (if m < 0 then 0 else m / m') = p := ⟨_, rfl⟩
    obtain ⟨q, hq⟩ : ∃ q, (if c < 0 then 0 else c / c') = q := ⟨_, rfl⟩
    rw [hp, hq] at hB
    obtain rfl : E = (min p q, 0) := by
      rw [← HE.out]; unfold unitsE
      rw [if_neg hu, if_pos hm, ← hp, ← hq]
      unfold unitsV
      have a1 : 0 ≤ m → 0 ≤ m / m' := fun h => Int.ediv_nonneg h (by omega)
      have a2 : 0 ≤ c → 0 ≤ c / c' := fun h => Int.ediv_nonneg h (by omega)
      simp only
      congr 1
      by_cases b1 : m < 0
      · rw [if_pos (.inl b1), if_pos b1]
        by_cases b2 : c < 0
        · rw [if_pos b2]; rfl
        · rw [if_neg b2]; have := a2 (by omega); omega
      · by_cases b2 : c < 0
        · rw [if_pos (.inr b2), if_neg b1, if_pos b2]; have := a1 (by omega); omega
        · rw [if_neg (by omega), if_neg b1, if_neg b2]
    clear HE hp hq hm hr hr2 ht
    simp only [v_vec_Units, ↓vD, vU, ↓vMd, vMu, vZ, seval, k_app, k_slc1]
    (repeat' (first | (simp (maxDischargeDepth := 16) only [*, vX, ↓vD, vU, ↓vMd, vMu, vZ, seval]) | (simp (disch := first | assumption | omega | rfl | exact fun _ => rfl) only [vP]) | ((with_reducible first | apply gsnd | apply csnd | apply gsd | apply csd | apply gsn | apply csn | apply gs | apply cs_) <;> intro _) | (with_reducible refine objQ_i (fun _ _ => ?_); repeat with_reducible refine imp_i (fun _ => ?_)) | (with_reducible first | refine callH_use (hL) ?_ | refine pureQ_use (hL) ?_) | (with_reducible first | refine callH_use (hT) ?_ | refine pureQ_use (hT) ?_) | (with_reducible first | refine callH_use (hB) ?_ | refine pureQ_use (hB) ?_)))
  · have ht : told1 ⟨m, c⟩ [⟨m', c'⟩] = (v0, 10) := by unfold told1; rw [if_neg (by simpa using hm)]
    obtain rfl : E = (0, 10) := by rw [← HE.out]; unfold unitsE; rw [if_neg hu, if_neg hm]
    rw [ht] at hT
    simp only [v0] at hT
    clear HE hm ht
    simp only [v_vec_Units, ↓vD, vU, ↓vMd, vMu, vZ, seval, k_app, k_slc1]
    (repeat' (first | (simp (maxDischargeDepth := 16) only [*, vX, ↓vD, vU, ↓vMd, vMu, vZ, seval]) | (simp (disch := first | assumption | omega | rfl | exact fun _ => rfl) only [vP]) | ((with_reducible first | apply gsnd | apply csnd | apply gsd | apply csd | apply gsn | apply csn | apply gs | apply cs_) <;> intro _) | (with_reducible refine objQ_i (fun _ _ => ?_); repeat with_reducible refine imp_i (fun _ => ?_)) | (with_reducible first | refine callH_use (hL) ?_ | refine pureQ_use (hL) ?_) | (with_reducible first | refine callH_use (hT) ?_ | refine pureQ_use (hT) ?_)))
end Go.Proofs.YtglekfgoadehbaaGreatDoor.V
end
section
/- fit.Take, fit.Most. -/
namespace Go.Proofs.YtglekfgoadehbaaGreatDoor.V
open Go Go.Proofs
set_option maxRecDepth 100000
set_option maxHeartbeats 4000000
def takeF (f : List Seg) (n d : Int) (v : Vec) : List Seg × Int := if winE f n d v = 0 then rangeC f n (n + d) ⟨-v.m, -v.c⟩ else ([], winE f n d v)
theorem Take_c (f : List Seg) (hn : f.length ≤ 1000000) (n d : Int) (v : Vec) (t : Tok) :
    VPure Tryz.prog 7 [.sl (f.map Seg.a) t, num n, num d, v.a] (.tup [.sl ((takeF f n d v).1.map Seg.a) .no, num (takeF f n d v).2]) := by
  refine VPure.tokT (fun Z st => ?_)
  refine VCalls.of v_fit_Take_ok (Nat.le_of_ble_eq_true rfl) ?_
  simp only [v_fit_Take, ↓vD, vU, ↓vMd, vMu, vZ, seval, k_app, k_slc1]
  (repeat' (first | (simp (maxDischargeDepth := 16) only [*, num, Vec.a, vX, ↓vD, vU, ↓vMd, vMu, vZ, seval]) | (simp (disch := first | assumption | omega | rfl | exact fun _ => rfl) only [num, Vec.a, vP]) | ((with_reducible first | apply gsnd | apply csnd | apply gsd | apply csd | apply gsn | apply csn | apply gs | apply cs_) <;> intro _) | (with_reducible refine objQ_i (fun _ _ => ?_); repeat with_reducible refine imp_i (fun _ => ?_))))
  (rename_i b4 hb4 b5 hb5 n_b5_b4 n_b4_b5 b6 hb6 n_b6_b4 n_b4_b6 n_b6_b5 n_b5_b6 b7 hb7 n_b7_b4 n_b4_b7 n_b7_b5 n_b5_b7 n_b7_b6 n_b6_b7 b8 hb8 n_b8_b4 n_b4_b8 n_b8_b5 n_b5_b8 n_b8_b6 n_b6_b8 n_b8_b7 n_b7_b8)
  have hR := Range_c f hn t n (n + d) (-v.m) (-v.c)
  obtain ⟨w, hw⟩ : ∃ w, rangeC f n (n + d) ⟨-v.m, -v.c⟩ = w := ⟨_, rfl⟩
  rw [hw] at hR
  have HF : Hid (takeF f n d v = if winE f n d v = 0 then w else ([], winE f n d v)) := ⟨by unfold takeF; rw [hw]⟩
  clear hw
  obtain ⟨o, e⟩ := w
  simp only at hR
  refine callH_then (window_c (K := fun r s => r = num e ∧ s = ((((st.ins b4 (.cells [.sl (f.map Seg.a) t])).ins b5 (.cells [.int .i64 n])).ins b6 (.cells [.int .i64 d])).ins b7 (.cells [.int .i64 v.m, .int .i64 v.c])).ins b8 (.cells [.sl (o.map Seg.a) .no])) f hn n d v t ?_) ?_
  · intro hE
    obtain ⟨_, d1, d2, _, hv, d3, d4⟩ := win_ok hE
    have hwr : IntKind.i64.wrap (n + d) = n + d := wrap_i64 _ (by omega) (by omega)
    simp only [mayV, inR, Bool.and_eq_true, decide_eq_true_eq] at hv
    have hw1 : IntKind.i64.wrap (0 - v.m) = -v.m := by rw [wrap_i64 _ (by omega) (by omega)]; omega
    have hw2 : IntKind.i64.wrap (0 - v.c) = -v.c := by rw [wrap_i64 _ (by omega) (by omega)]; omega
    simp only [num] at hR
    clear hE hv
    refine VCalls.of v_fit_Take_1_ok (Nat.le_of_ble_eq_true rfl) ?_
    simp only [v_fit_Take_1, List.nil_append, List.cons_append, ↓vD, vU, ↓vMd, vMu, vZ, seval, k_app, k_slc1]
    (repeat' (first | (simp (maxDischargeDepth := 16) only [*, num, Vec.a, vX, ↓vD, vU, ↓vMd, vMu, vZ, seval]) | (simp (disch := first | assumption | omega | rfl | exact fun _ => rfl) only [num, Vec.a, vP]) | ((with_reducible first | apply gsnd | apply csnd | apply gsd | apply csd | apply gsn | apply csn | apply gs | apply cs_) <;> intro _) | (with_reducible refine objQ_i (fun _ _ => ?_); repeat with_reducible refine imp_i (fun _ => ?_)) | (with_reducible first | refine callH_use (hR) ?_ | refine pureQ_use (hR) ?_)))
  · rintro r s hK
    obtain ⟨E, hE⟩ : ∃ E, winE f n d v = E := ⟨_, rfl⟩
    rw [hE] at hK HF
    by_cases h0 : E = 0
    · subst h0
      rw [if_pos rfl] at hK HF
      rw [HF.out]
      obtain ⟨rfl, rfl⟩ := hK
      (repeat' (first | (simp (maxDischargeDepth := 16) only [*, num, Vec.a, vX, ↓vD, vU, ↓vMd, vMu, vZ, seval]) | (simp (disch := first | assumption | omega | rfl | exact fun _ => rfl) only [num, Vec.a, vP]) | ((with_reducible first | apply gsnd | apply csnd | apply gsd | apply csd | apply gsn | apply csn | apply gs | apply cs_) <;> intro _) | (with_reducible refine objQ_i (fun _ _ => ?_); repeat with_reducible refine imp_i (fun _ => ?_))))
      all_goals first | done | exact ⟨_, by (refine ⟨fun i o e => ?_, fun _ h => h⟩; revert e; simp only [St.ins, St.del, add_objs, kill_objs]; (repeat' split); all_goals (first | exact id | (intros; contradiction) | (intros; subst_vars; contradiction) | (intros; simp_all; done) | (intros; subst_vars; simp_all; done))), _, rfl, rfl⟩
    · rw [if_neg h0] at hK HF
      rw [HF.out]
      obtain ⟨rfl, rfl⟩ := hK
      (repeat' (first | (simp (maxDischargeDepth := 16) only [*, num, Vec.a, vX, ↓vD, vU, ↓vMd, vMu, vZ, seval]) | (simp (disch := first | assumption | omega | rfl | exact fun _ => rfl) only [num, Vec.a, vP]) | ((with_reducible first | apply gsnd | apply csnd | apply gsd | apply csd | apply gsn | apply csn | apply gs | apply cs_) <;> intro _) | (with_reducible refine objQ_i (fun _ _ => ?_); repeat with_reducible refine imp_i (fun _ => ?_))))
      all_goals first | done | exact ⟨_, by (refine ⟨fun i o e => ?_, fun _ h => h⟩; revert e; simp only [St.ins, St.del, add_objs, kill_objs]; (repeat' split); all_goals (first | exact id | (intros; contradiction) | (intros; subst_vars; contradiction) | (intros; simp_all; done) | (intros; subst_vars; simp_all; done))), _, rfl, rfl⟩
def mostF (f : List Seg) (n d : Int) (u : Vec) : Int × Int := if mayF f = true ∧ (u.m < 1 ∨ u.c < 1) then (0, 2) else if winE f n d u = 0 then unitsE (leastF minV f n (n + d)) u else (0, winE f n d u)
theorem Most_c (f : List Seg) (hn : f.length ≤ 1000000) (n d : Int) (u : Vec) (t : Tok) :
    VPure Tryz.prog 9 [.sl (f.map Seg.a) t, num n, num d, u.a] (.tup [num (mostF f n d u).1, num (mostF f n d u).2]) := fun Z st => by
  have hmay := May_F f (by omega) t
  by_cases hu : mayF f = true ∧ (u.m < 1 ∨ u.c < 1)
  · have e : mostF f n d u = (0, 2) := by unfold mostF; rw [if_pos hu]
    rw [e]
    obtain ⟨h1, h2⟩ := hu
    rw [h1] at hmay
    clear e h1
    refine VCalls.of v_fit_Most_ok (Nat.le_of_ble_eq_true rfl) ?_
    simp only [v_fit_Most, ↓vD, vU, ↓vMd, vMu, vZ, seval, k_app, k_slc1]
    (repeat' (first | (simp (maxDischargeDepth := 16) only [*, num, Vec.a, vX, ↓vD, vU, ↓vMd, vMu, vZ, seval]) | (simp (disch := first | assumption | omega | rfl | exact fun _ => rfl) only [num, Vec.a, vP]) | ((with_reducible first | apply gsnd | apply csnd | apply gsd | apply csd | apply gsn | apply csn | apply gs | apply cs_) <;> intro _) | (with_reducible refine objQ_i (fun _ _ => ?_); repeat with_reducible refine imp_i (fun _ => ?_)) | (with_reducible first | refine callH_use (hmay) ?_ | refine pureQ_use (hmay) ?_)))
    all_goals first | done | exact ⟨_, by (refine ⟨fun i o e => ?_, fun _ h => h⟩; revert e; simp only [St.ins, St.del, add_objs, kill_objs]; (repeat' split); all_goals (first | exact id | (intros; contradiction) | (intros; subst_vars; contradiction) | (intros; simp_all; done) | (intros; subst_vars; simp_all; done))), rfl, rfl⟩ | (refine ⟨fun i o e => ?_, fun _ h => h⟩; revert e; simp only [St.ins, St.del, add_objs, kill_objs]; (repeat' split); all_goals (first | exact id | (intros; contradiction) | (intros; subst_vars; contradiction) | (intros; simp_all; done) | (intros; subst_vars; simp_all; done))) | trace_state
  have HF : Hid (mostF f n d u = if winE f n d u = 0 then unitsE (leastF minV f n (n + d)) u else (0, winE f n d u)) := ⟨by unfold mostF; rw [if_neg hu]⟩
  have HU : Hid (winE f n d u = 0 → 1 ≤ u.m ∧ 1 ≤ u.c) := ⟨fun h => by have := (win_ok h).1; by_cases h1 : u.m < 1 ∨ u.c < 1; exact absurd ⟨this, h1⟩ hu; omega⟩
  have hnot : mayF f = true → ¬ (u.m < 1) ∧ ¬ (u.c < 1) := fun h => by by_cases h1 : u.m < 1 ∨ u.c < 1; exact absurd ⟨h, h1⟩ hu; omega
  obtain ⟨mf, hmf⟩ : ∃ m, mayF f = m := ⟨_, rfl⟩
  rw [hmf] at hmay hnot
  clear hmf hu
  have hLow := Low_c f hn n (n + d) t
  obtain ⟨w, hw⟩ : ∃ w, leastF minV f n (n + d) = w := ⟨_, rfl⟩
  rw [hw] at hLow HF
  clear hw
  have hUn := Units_v w.m w.c u.m u.c
  obtain ⟨x, hx⟩ : ∃ x, unitsE w u = x := ⟨_, rfl⟩
  rw [hx] at HF
  rw [show unitsE ⟨w.m, w.c⟩ ⟨u.m, u.c⟩ = x from hx] at hUn
  clear hx
  obtain ⟨q, e⟩ := x
  simp only at hUn
  refine VCalls.of v_fit_Most_ok (Nat.le_of_ble_eq_true rfl) ?_
  simp only [v_fit_Most, ↓vD, vU, ↓vMd, vMu, vZ, seval, k_app, k_slc1]
  cases mf
  all_goals
    have hnot2 := hnot
    simp only [Bool.false_eq_true, false_implies, true_implies, forall_const] at hnot2
    clear hnot
    (repeat' (first | (simp (maxDischargeDepth := 16) only [*, num, Vec.a, vX, ↓vD, vU, ↓vMd, vMu, vZ, seval]) | (simp (disch := first | assumption | omega | rfl | exact fun _ => rfl) only [num, Vec.a, vP]) | ((with_reducible first | apply gsnd | apply csnd | apply gsd | apply csd | apply gsn | apply csn | apply gs | apply cs_) <;> intro _) | (with_reducible refine objQ_i (fun _ _ => ?_); repeat with_reducible refine imp_i (fun _ => ?_)) | (with_reducible first | refine callH_use (hmay) ?_ | refine pureQ_use (hmay) ?_)))
  all_goals
    (rename_i b4 hb4 b5 hb5 n_b5_b4 n_b4_b5 b6 hb6 n_b6_b4 n_b4_b6 n_b6_b5 n_b5_b6 b7 hb7 n_b7_b4 n_b4_b7 n_b7_b5 n_b5_b7 n_b7_b6 n_b6_b7 b8 hb8 n_b8_b4 n_b4_b8 n_b8_b5 n_b5_b8 n_b8_b6 n_b6_b8 n_b8_b7 n_b7_b8)
    refine callH_then (window_c (K := fun r s => r = num e ∧ s = ((((st.ins b4 (.cells [.sl (f.map Seg.a) t])).ins b5 (.cells [.int .i64 n])).ins b6 (.cells [.int .i64 d])).ins b7 (.cells [.int .i64 u.m, .int .i64 u.c])).ins b8 (.cells [.int .i64 q])) f hn n d u t ?_) ?_
    · intro hE
      have hO := over_ok hE
      rw [hO, if_pos rfl] at hLow
      obtain ⟨_, d1, d2, _, _, d3, d4⟩ := win_ok hE
      have hwr : IntKind.i64.wrap (n + d) = n + d := wrap_i64 _ (by omega) (by omega)
      simp only [num, Vec.a] at hLow
      clear hE hO
      refine VCalls.of v_fit_Most_1_ok (Nat.le_of_ble_eq_true rfl) ?_
      simp only [v_fit_Most_1, List.nil_append, List.cons_append, ↓vD, vU, ↓vMd, vMu, vZ, seval, k_app, k_slc1]
      (repeat' (first | (simp (maxDischargeDepth := 16) only [*, num, Vec.a, vX, ↓vD, vU, ↓vMd, vMu, vZ, seval]) | (simp (disch := first | assumption | omega | rfl | exact fun _ => rfl) only [num, Vec.a, vP]) | ((with_reducible first | apply gsnd | apply csnd | apply gsd | apply csd | apply gsn | apply csn | apply gs | apply cs_) <;> intro _) | (with_reducible refine objQ_i (fun _ _ => ?_); repeat with_reducible refine imp_i (fun _ => ?_)) | (with_reducible first | refine callH_use (hLow) ?_ | refine pureQ_use (hLow) ?_) | (with_reducible first | refine callH_use (hUn) ?_ | refine pureQ_use (hUn) ?_)))
    · rintro r s hK
      obtain ⟨E, hE⟩ : ∃ E, winE f n d u = E := ⟨_, rfl⟩
      rw [hE] at hK HF
      by_cases h0 : E = 0
      · subst h0
        rw [if_pos rfl] at hK HF
        rw [HF.out]
        obtain ⟨rfl, rfl⟩ := hK
        (repeat' (first | (simp (maxDischargeDepth := 16) only [*, num, Vec.a, vX, ↓vD, vU, ↓vMd, vMu, vZ, seval]) | (simp (disch := first | assumption | omega | rfl | exact fun _ => rfl) only [num, Vec.a, vP]) | ((with_reducible first | apply gsnd | apply csnd | apply gsd | apply csd | apply gsn | apply csn | apply gs | apply cs_) <;> intro _) | (with_reducible refine objQ_i (fun _ _ => ?_); repeat with_reducible refine imp_i (fun _ => ?_))))
        all_goals first | done | exact ⟨_, by (refine ⟨fun i o e => ?_, fun _ h => h⟩; revert e; simp only [St.ins, St.del, add_objs, kill_objs]; (repeat' split); all_goals (first | exact id | (intros; contradiction) | (intros; subst_vars; contradiction) | (intros; simp_all; done) | (intros; subst_vars; simp_all; done))), rfl, rfl⟩
      · rw [if_neg h0] at hK HF
        rw [HF.out]
        obtain ⟨rfl, rfl⟩ := hK
        (repeat' (first | (simp (maxDischargeDepth := 16) only [*, num, Vec.a, vX, ↓vD, vU, ↓vMd, vMu, vZ, seval]) | (simp (disch := first | assumption | omega | rfl | exact fun _ => rfl) only [num, Vec.a, vP]) | ((with_reducible first | apply gsnd | apply csnd | apply gsd | apply csd | apply gsn | apply csn | apply gs | apply cs_) <;> intro _) | (with_reducible refine objQ_i (fun _ _ => ?_); repeat with_reducible refine imp_i (fun _ => ?_))))
        all_goals first | done | exact ⟨_, by (refine ⟨fun i o e => ?_, fun _ h => h⟩; revert e; simp only [St.ins, St.del, add_objs, kill_objs]; (repeat' split); all_goals (first | exact id | (intros; contradiction) | (intros; subst_vars; contradiction) | (intros; simp_all; done) | (intros; subst_vars; simp_all; done))), rfl, rfl⟩
end Go.Proofs.YtglekfgoadehbaaGreatDoor.V
end
section
/- What is free, in plain Lean. -/
namespace Go.Proofs.YtglekfgoadehbaaGreatDoor.V
open Go Go.Proofs
def behindF (f : List Seg) (a : Int) : List Seg := (ofF (⟨a, atF f a⟩ :: f.filter fun x => decide (a < x.t))).1
def alwaysF (v : Vec) (a : Int) : List Seg := (ofF [⟨a, v⟩]).1
structure Pol where
  k : Int
  cap : Vec
  win : Int
  deriving DecidableEq, Repr, Inhabited
def fullV : Vec := ⟨1125899906842624, 1125899906842624⟩
def boundF (c l o : List Seg) (a : Int) (p : Pol) : List Seg × Int := if p.k = 0 then doR 1 c l else if p.k = 1 then doR 1 (alwaysF p.cap a) o else (alwaysF fullV a, 0)
def allF (c l o : List Seg) (a : Int) : List Pol → List Seg → List Seg × Int
  | [], f => (f, 0)
  | p :: r, f => if (boundF c l o a p).2 = 0 then (if (doR 2 f (boundF c l o a p).1).2 = 0 then allF c l o a r (doR 2 f (boundF c l o a p).1).1 else ([], (doR 2 f (boundF c l o a p).1).2)) else ([], (boundF c l o a p).2)
def oddP (p : Pol) : Bool := decide (p.k = 1) && !mayV p.cap
def checkP (c l o : List Seg) (ps : List Pol) (a : Int) : Int := if mayF c && mayF l && mayF o then (if ps.any (fun p => decide (2 < p.k)) then 2 else if (farF a || ps.any oddP) then 10 else 0) else 5
def freeF (c l o : List Seg) (ps : List Pol) (a : Int) : List Seg × Int := if checkP c l o ps a ≠ 0 then ([], checkP c l o ps a) else allF (behindF c a) (behindF l a) (behindF o a) a ps (alwaysF fullV a)
end Go.Proofs.YtglekfgoadehbaaGreatDoor.V
end
section
/- fit's form, always, none, commit, user. -/
namespace Go.Proofs.YtglekfgoadehbaaGreatDoor.V
open Go Go.Proofs
set_option maxRecDepth 100000
set_option maxHeartbeats 4000000
def Pol.a (p : Pol) : AV := .agg [.int .u8 p.k, .int .i64 p.cap.m, .int .i64 p.cap.c, .int .i64 p.win]
theorem form_v (f g h : List Seg) (hf : f.length ≤ 1000000) (hg : g.length ≤ 1000000) (hh : h.length ≤ 1000000) (t1 t2 t3 t : Tok) : VPure Tryz.prog 55 [.sl [.sl (f.map Seg.a) t1, .sl (g.map Seg.a) t2, .sl (h.map Seg.a) t3] t] (.bool (mayF f && mayF g && mayF h)) := by
  refine VPure.of v_fit_form_ok (Nat.le_of_ble_eq_true rfl) (fun Z st => ?_)
  have m1 := May_F f (by omega) t1
  have m2 := May_F g (by omega) t2
  have m3 := May_F h (by omega) t3
  obtain ⟨a, ha⟩ : ∃ a, mayF f = a := ⟨_, rfl⟩
  obtain ⟨b, hb⟩ : ∃ a, mayF g = a := ⟨_, rfl⟩
  obtain ⟨c, hc⟩ : ∃ a, mayF h = a := ⟨_, rfl⟩
  rw [ha] at m1 ⊢
  rw [hb] at m2 ⊢
  rw [hc] at m3 ⊢
  clear ha hb hc
  have i1 : viad 1 (.sl [.sl (f.map Seg.a) t1, .sl (g.map Seg.a) t2, .sl (h.map Seg.a) t3] t) (.int .i64 1) = some (.iptr (.sl (g.map Seg.a) t2) 0) := by simp [viad, AV.cells]
  have i2 : viad 1 (.sl [.sl (f.map Seg.a) t1, .sl (g.map Seg.a) t2, .sl (h.map Seg.a) t3] t) (.int .i64 2) = some (.iptr (.sl (h.map Seg.a) t3) 0) := by simp [viad, AV.cells]
  simp only [v_fit_form, ↓vD, vU, ↓vMd, vMu, vZ, seval, k_app, k_slc1]
  (repeat' (first | (simp (maxDischargeDepth := 16) only [*, vX, ↓vD, vU, ↓vMd, vMu, vZ, seval]) | (simp (disch := first | assumption | omega | rfl | exact fun _ => rfl) only [vP]) | ((with_reducible first | apply gsnd | apply csnd | apply gsd | apply csd | apply gsn | apply csn | apply gs | apply cs_) <;> intro _)))
  refine loopp_of (len := 3) (by simp only [asgL, dsts, List.cons_append, List.nil_append, List.append_nil]; rfl) (by simp only [noR, Bool.and_true, Bool.and_false]; rfl) (by omega) (fun k fr => fr.t 7 = .int .i64 k ∧ (0 < k → a = true) ∧ (1 < k → b = true) ∧ (2 < k → c = true)) ?_ ?_ ?_
  · refine ⟨by simp [↓vD, vU, ↓vMd, vMu, vZ, seval, k_app, k_slc1], ?_, ?_, ?_⟩ <;> omega
  · rintro k fr hk hwk hfr hd ⟨h7, k1, k2, k3⟩
    have hk3 : k = 0 ∨ k = 1 ∨ k = 2 := by omega
    rcases hk3 with rfl | rfl | rfl
    · clear k1 k2 k3
      cases a
      · (repeat' (first | (simp (maxDischargeDepth := 16) only [*, vX, ↓vD, vU, ↓vMd, vMu, vZ, seval]) | (simp (disch := first | assumption | omega | rfl | exact fun _ => rfl) only [vP]) | ((with_reducible first | apply gsnd | apply csnd | apply gsd | apply csd | apply gsn | apply csn | apply gs | apply cs_) <;> intro _) | (with_reducible first | refine callH_use (m1) ?_ | refine pureQ_use (m1) ?_)))
        all_goals first | done | simp
      · (repeat' (first | (simp (maxDischargeDepth := 16) only [*, vX, ↓vD, vU, ↓vMd, vMu, vZ, seval]) | (simp (disch := first | assumption | omega | rfl | exact fun _ => rfl) only [vP]) | ((with_reducible first | apply gsnd | apply csnd | apply gsd | apply csd | apply gsn | apply csn | apply gs | apply cs_) <;> intro _) | (with_reducible first | refine callH_use (m1) ?_ | refine pureQ_use (m1) ?_)))
        all_goals first | done | simp
    · obtain rfl := k1 (by omega)
      clear k1 k2 k3
      cases b
      · (repeat' (first | (simp (maxDischargeDepth := 16) only [*, i1, vX, ↓vD, vU, ↓vMd, vMu, vZ, seval]) | (simp (disch := first | assumption | omega | rfl | exact fun _ => rfl) only [i1, vP]) | ((with_reducible first | apply gsnd | apply csnd | apply gsd | apply csd | apply gsn | apply csn | apply gs | apply cs_) <;> intro _) | (with_reducible first | refine callH_use (m2) ?_ | refine pureQ_use (m2) ?_)))
        all_goals first | done | simp
      · (repeat' (first | (simp (maxDischargeDepth := 16) only [*, i1, vX, ↓vD, vU, ↓vMd, vMu, vZ, seval]) | (simp (disch := first | assumption | omega | rfl | exact fun _ => rfl) only [i1, vP]) | ((with_reducible first | apply gsnd | apply csnd | apply gsd | apply csd | apply gsn | apply csn | apply gs | apply cs_) <;> intro _) | (with_reducible first | refine callH_use (m2) ?_ | refine pureQ_use (m2) ?_)))
        all_goals first | done | simp
    · obtain rfl := k1 (by omega)
      obtain rfl := k2 (by omega)
      clear k1 k2 k3
      cases c
      · (repeat' (first | (simp (maxDischargeDepth := 16) only [*, i2, vX, ↓vD, vU, ↓vMd, vMu, vZ, seval]) | (simp (disch := first | assumption | omega | rfl | exact fun _ => rfl) only [i2, vP]) | ((with_reducible first | apply gsnd | apply csnd | apply gsd | apply csd | apply gsn | apply csn | apply gs | apply cs_) <;> intro _) | (with_reducible first | refine callH_use (m3) ?_ | refine pureQ_use (m3) ?_)))
        all_goals first | done | simp
      · (repeat' (first | (simp (maxDischargeDepth := 16) only [*, i2, vX, ↓vD, vU, ↓vMd, vMu, vZ, seval]) | (simp (disch := first | assumption | omega | rfl | exact fun _ => rfl) only [i2, vP]) | ((with_reducible first | apply gsnd | apply csnd | apply gsd | apply csd | apply gsn | apply csn | apply gs | apply cs_) <;> intro _) | (with_reducible first | refine callH_use (m3) ?_ | refine pureQ_use (m3) ?_)))
        all_goals first | done | simp
  · rintro fr hfr hd ⟨h7, k1, k2, k3⟩
    obtain rfl := k1 (by omega)
    obtain rfl := k2 (by omega)
    obtain rfl := k3 (by omega)
    clear k1 k2 k3
    (repeat' (first | (simp (maxDischargeDepth := 16) only [*, vX, ↓vD, vU, ↓vMd, vMu, vZ, seval]) | (simp (disch := first | assumption | omega | rfl | exact fun _ => rfl) only [vP]) | ((with_reducible first | apply gsnd | apply csnd | apply gsd | apply csd | apply gsn | apply csn | apply gs | apply cs_) <;> intro _)))
theorem always_v (v : Vec) (a : Int) : VPure Tryz.prog 56 [.agg [.int .i64 v.m, .int .i64 v.c], .int .i64 a] (.sl ((alwaysF v a).map Seg.a) .no) := by
  refine VPure.of v_fit_always_ok (Nat.le_of_ble_eq_true rfl) (fun Z st => ?_)
  have hO := Of_v [⟨a, v⟩] (by simp) .full
  obtain ⟨w, hw⟩ : ∃ w, ofF [⟨a, v⟩] = w := ⟨_, rfl⟩
  have e : alwaysF v a = w.1 := by unfold alwaysF; rw [hw]
  rw [hw] at hO
  rw [e]
  simp only [List.map_cons, List.map_nil, Seg.a, num] at hO
  clear hw e
  simp only [v_fit_always, ↓vD, vU, ↓vMd, vMu, vZ, seval, k_app, k_slc1]
  (repeat' (first | (simp (maxDischargeDepth := 16) only [*, vX, ↓vD, vU, ↓vMd, vMu, vZ, seval]) | (simp (disch := first | assumption | omega | rfl | exact fun _ => rfl) only [vP]) | ((with_reducible first | apply gsnd | apply csnd | apply gsd | apply csd | apply gsn | apply csn | apply gs | apply cs_) <;> intro _) | (with_reducible refine objQ_i (fun _ _ => ?_); repeat with_reducible refine imp_i (fun _ => ?_)) | (with_reducible first | refine callH_use (hO) ?_ | refine pureQ_use (hO) ?_)))
theorem ofF_len (xs : List Seg) : (ofF xs).1.length ≤ xs.length := by
  unfold ofF; split
  · exact foldF_len xs
  · simp
theorem always_len (v : Vec) (a : Int) : (alwaysF v a).length ≤ 1 := by have := ofF_len [⟨a, v⟩]; simpa [alwaysF] using this
def givA (c l o : List Seg) (t1 t2 t3 : Tok) (a : Int) : AV := .agg [.sl (c.map Seg.a) t1, .sl (l.map Seg.a) t2, .sl (o.map Seg.a) t3, .int .i64 a]
theorem none_v (c l o : List Seg) (t1 t2 t3 : Tok) (a : Int) (p : Pol) : VPure Tryz.prog 77 [givA c l o t1 t2 t3 a, p.a] (.tup [.sl ((alwaysF fullV a).map Seg.a) .no, .int .i64 0]) := by
  refine VPure.of v_fit_none_ok (Nat.le_of_ble_eq_true rfl) (fun Z st => ?_)
  have hA := always_v fullV a
  simp only [fullV] at hA
  simp only [v_fit_none, givA, Pol.a, fullV, ↓vD, vU, ↓vMd, vMu, vZ, seval, k_app, k_slc1]
  (repeat' (first | (simp (maxDischargeDepth := 16) only [*, vX, ↓vD, vU, ↓vMd, vMu, vZ, seval]) | (simp (disch := first | assumption | omega | rfl | exact fun _ => rfl) only [vP]) | ((with_reducible first | apply gsnd | apply csnd | apply gsd | apply csd | apply gsn | apply csn | apply gs | apply cs_) <;> intro _) | (with_reducible refine objQ_i (fun _ _ => ?_); repeat with_reducible refine imp_i (fun _ => ?_)) | (with_reducible first | refine callH_use (hA) ?_ | refine pureQ_use (hA) ?_)))
  all_goals first | done | trace_state
theorem commit_v (c l o : List Seg) (hc : c.length ≤ 1000000) (hl : l.length ≤ 1000000) (t1 t2 t3 : Tok) (a : Int) (p : Pol) : VPure Tryz.prog 75 [givA c l o t1 t2 t3 a, p.a] (.tup [.sl ((madeF subV c l).1.map Seg.a) .no, .int .i64 (madeF subV c l).2]) := by
  refine VPure.of v_fit_commit_ok (Nat.le_of_ble_eq_true rfl) (fun Z st => ?_)
  have hS := Sub_c c l hc hl t1 t2
  simp only [num] at hS
  simp only [v_fit_commit, givA, Pol.a, ↓vD, vU, ↓vMd, vMu, vZ, seval, k_app, k_slc1]
  (repeat' (first | (simp (maxDischargeDepth := 16) only [*, vX, ↓vD, vU, ↓vMd, vMu, vZ, seval]) | (simp (disch := first | assumption | omega | rfl | exact fun _ => rfl) only [vP]) | ((with_reducible first | apply gsnd | apply csnd | apply gsd | apply csd | apply gsn | apply csn | apply gs | apply cs_) <;> intro _) | (with_reducible refine objQ_i (fun _ _ => ?_); repeat with_reducible refine imp_i (fun _ => ?_)) | (with_reducible first | refine callH_use (hS) ?_ | refine pureQ_use (hS) ?_)))
  all_goals first | done | trace_state
theorem user_v (c l o : List Seg) (ho : o.length ≤ 1000000) (t1 t2 t3 : Tok) (a : Int) (p : Pol) : VPure Tryz.prog 76 [givA c l o t1 t2 t3 a, p.a] (.tup [.sl ((madeF subV (alwaysF p.cap a) o).1.map Seg.a) .no, .int .i64 (madeF subV (alwaysF p.cap a) o).2]) := by
  refine VPure.of v_fit_user_ok (Nat.le_of_ble_eq_true rfl) (fun Z st => ?_)
  have hA := always_v p.cap a
  have hl := always_len p.cap a
  obtain ⟨w, hw⟩ : ∃ w, alwaysF p.cap a = w := ⟨_, rfl⟩
  rw [hw] at hA hl ⊢
  have hS := Sub_c w o (by omega) ho .no t3
  simp only [num] at hS
  clear hw
  simp only [v_fit_user, givA, Pol.a, ↓vD, vU, ↓vMd, vMu, vZ, seval, k_app, k_slc1]
  (repeat' (first | (simp (maxDischargeDepth := 16) only [*, vX, ↓vD, vU, ↓vMd, vMu, vZ, seval]) | (simp (disch := first | assumption | omega | rfl | exact fun _ => rfl) only [vP]) | ((with_reducible first | apply gsnd | apply csnd | apply gsd | apply csd | apply gsn | apply csn | apply gs | apply cs_) <;> intro _) | (with_reducible refine objQ_i (fun _ _ => ?_); repeat with_reducible refine imp_i (fun _ => ?_)) | (with_reducible first | refine callH_use (hA) ?_ | refine pureQ_use (hA) ?_) | (with_reducible first | refine callH_use (hS) ?_ | refine pureQ_use (hS) ?_)))
  all_goals first | done | trace_state
end Go.Proofs.YtglekfgoadehbaaGreatDoor.V
end
section
/- fit's behind, check. -/
namespace Go.Proofs.YtglekfgoadehbaaGreatDoor.V
open Go Go.Proofs
set_option maxRecDepth 100000
set_option maxHeartbeats 4000000
theorem behind_v (f : List Seg) (hf : f.length ≤ 1000000) (t : Tok) (a : Int) : VPure Tryz.prog 33 [.sl (f.map Seg.a) t, .int .i64 a] (.sl ((behindF f a).map Seg.a) .no) := by
  refine VPure.tok (fun Z st => ?_)
  have hA := At_v f (by omega) t a
  simp only [num] at hA
  obtain ⟨u, hu⟩ : ∃ u, atF f a = u := ⟨_, rfl⟩
  have HB : Hid (behindF f a = (ofF (⟨a, u⟩ :: f.filter fun x => decide (a < x.t))).1) := ⟨by unfold behindF; rw [hu]⟩
  rw [hu] at hA
  clear hu
  refine VCalls.of v_fit_behind_ok (Nat.le_of_ble_eq_true rfl) ?_
  simp only [v_fit_behind, ↓vD, vU, ↓vMd, vMu, vZ, seval, k_app, k_slc1]
  (repeat' (first | (simp (maxDischargeDepth := 16) only [*, vX, ↓vD, vU, ↓vMd, vMu, vZ, seval]) | (simp (disch := first | assumption | omega | rfl | exact fun _ => rfl) only [vP]) | ((with_reducible first | apply gsnd | apply csnd | apply gsd | apply csd | apply gsn | apply csn | apply gs | apply cs_) <;> intro _) | (with_reducible refine objQ_i (fun _ _ => ?_); repeat with_reducible refine imp_i (fun _ => ?_)) | ((try with_reducible refine appK_a ?_); first | (with_reducible refine appD_F (by refine ⟨?_, ?_, ?_, ?_⟩ <;> (first | assumption | omega | exact St.has_add (by assumption) | (simp only [ins_has]; exact St.has_add (by assumption)) | (simp only [ins_has, fresh_ins, kill_ins, add_ins] at *; exact St.has_add (by assumption)) | (simp only [*, ins_has, has_full, St.has_add]; done) | (simp [-List.map_take, -List.map_drop, or_imp, forall_and, Seg.a, Vec.a, Leg.a, num, okEl, cells_agg, cells_int, cells_sl, cells_bool, AV.isCell]; done) | (simp; omega))) (fun _ _ => ?_)) | (with_reducible refine appD_V (by refine ⟨?_, ?_, ?_, ?_, ?_⟩ <;> (first | assumption | omega | exact St.has_add (by assumption) | (simp only [ins_has]; exact St.has_add (by assumption)) | (simp only [ins_has, fresh_ins, kill_ins, add_ins] at *; exact St.has_add (by assumption)) | (simp only [*, ins_has, has_full, St.has_add]; done) | (simp [-List.map_take, -List.map_drop, or_imp, forall_and, Seg.a, Vec.a, Leg.a, num, okEl, cells_agg, cells_int, cells_sl, cells_bool, AV.isCell]; done) | (simp; omega))) (fun _ _ => ?_))) | (with_reducible refine freshQ_i (fun _ _ => ?_)) | (with_reducible first | refine callH_use (hA) ?_ | refine pureQ_use (hA) ?_)))
  refine loopf_of (len := f.length) (by simp only [asgL, dsts, List.cons_append, List.nil_append, List.append_nil]; rfl) (by simp only [noR, Bool.and_true, Bool.and_false]; rfl) (by omega) (fun k fr s => ∃ acc tk, Ours 3 st s tk ∧ fr.t 18 = .int .i64 k ∧ fr.t 5 = .sl (acc.map Seg.a) tk ∧ acc.length ≤ k + 1 ∧ Hid (acc = ⟨a, u⟩ :: (f.take k).filter fun x => decide (a < x.t))) ?_ ?_ ?_
  · exact ⟨[⟨a, u⟩], .full, Ours.full 3 st, by simp [↓vD, vU, ↓vMd, vMu, vZ, seval, k_app, k_slc1], by simp [↓vD, vU, ↓vMd, vMu, vZ, seval, k_app, k_slc1, Seg.a], by simp, ⟨by simp⟩⟩
  · rintro k fr s' hk hwk hfr hd ⟨acc, tk, ho, h18, h5, hal, HA⟩
    have hts := ho.has
    have hun := ho.under
    obtain ⟨x, hx⟩ : ∃ x, f[k] = x := ⟨_, rfl⟩
    have htk : f.take (k + 1) = f.take k ++ [x] := by rw [List.take_add_one, List.getElem?_eq_getElem hk, hx]; rfl
    have hac : ∀ z ∈ acc.map Seg.a, z.cells.length = 3 := fun z hz => by obtain ⟨y, _, rfl⟩ := List.mem_map.1 hz; rfl
    by_cases hc : a < x.t
    · have HN : Hid (acc ++ [x] = ⟨a, u⟩ :: (f.take (k + 1)).filter fun x => decide (a < x.t)) := ⟨by rw [HA.out, htk, List.filter_append]; simp [hc]⟩
      clear HA htk
      (repeat' (first | (simp (maxDischargeDepth := 16) only [*, Seg.a, vX, ↓vD, vU, ↓vMd, vMu, vZ, seval]) | (simp (disch := first | assumption | omega | rfl | exact fun _ => rfl) only [Seg.a, vP]) | ((with_reducible first | apply gsnd | apply csnd | apply gsd | apply csd | apply gsn | apply csn | apply gs | apply cs_) <;> intro _) | (with_reducible refine objQ_i (fun _ _ => ?_); repeat with_reducible refine imp_i (fun _ => ?_)) | ((try with_reducible refine appK_a ?_); first | (with_reducible refine appD_F (by refine ⟨?_, ?_, ?_, ?_⟩ <;> (first | assumption | omega | exact St.has_add (by assumption) | (simp only [ins_has]; exact St.has_add (by assumption)) | (simp only [ins_has, fresh_ins, kill_ins, add_ins] at *; exact St.has_add (by assumption)) | (simp only [*, ins_has, has_full, St.has_add]; done) | (simp [-List.map_take, -List.map_drop, or_imp, forall_and, Seg.a, Vec.a, Leg.a, num, okEl, cells_agg, cells_int, cells_sl, cells_bool, AV.isCell]; done) | (simp; omega))) (fun _ _ => ?_)) | (with_reducible refine appD_V (by refine ⟨?_, ?_, ?_, ?_, ?_⟩ <;> (first | assumption | omega | exact St.has_add (by assumption) | (simp only [ins_has]; exact St.has_add (by assumption)) | (simp only [ins_has, fresh_ins, kill_ins, add_ins] at *; exact St.has_add (by assumption)) | (simp only [*, ins_has, has_full, St.has_add]; done) | (simp [-List.map_take, -List.map_drop, or_imp, forall_and, Seg.a, Vec.a, Leg.a, num, okEl, cells_agg, cells_int, cells_sl, cells_bool, AV.isCell]; done) | (simp; omega))) (fun _ _ => ?_))) | (with_reducible refine freshQ_i (fun _ _ => ?_))))
      rename_i b8 hb8 t1 hf1
      have ho3 := ho.next (t' := t1) (by simpa only [kill_ins, fresh_ins] using hf1)
      exact ⟨_, by (refine ⟨fun i o e => ?_, fun _ h => h⟩; revert e; simp only [St.ins, St.del, add_objs, kill_objs]; (repeat' split); all_goals (first | exact id | (intros; contradiction) | (intros; subst_vars; contradiction) | (intros; simp_all; done) | (intros; subst_vars; simp_all; done))), acc ++ [x], t1, ho3, by simp [Seg.a], by simp; omega, HN⟩
    · have HN : Hid (acc = ⟨a, u⟩ :: (f.take (k + 1)).filter fun x => decide (a < x.t)) := ⟨by rw [htk, List.filter_append]; simp [hc, HA.out]⟩
      clear HA htk
      (repeat' (first | (simp (maxDischargeDepth := 16) only [*, Seg.a, vX, ↓vD, vU, ↓vMd, vMu, vZ, seval]) | (simp (disch := first | assumption | omega | rfl | exact fun _ => rfl) only [Seg.a, vP]) | ((with_reducible first | apply gsnd | apply csnd | apply gsd | apply csd | apply gsn | apply csn | apply gs | apply cs_) <;> intro _) | (with_reducible refine objQ_i (fun _ _ => ?_); repeat with_reducible refine imp_i (fun _ => ?_)) | ((try with_reducible refine appK_a ?_); first | (with_reducible refine appD_F (by refine ⟨?_, ?_, ?_, ?_⟩ <;> (first | assumption | omega | exact St.has_add (by assumption) | (simp only [ins_has]; exact St.has_add (by assumption)) | (simp only [ins_has, fresh_ins, kill_ins, add_ins] at *; exact St.has_add (by assumption)) | (simp only [*, ins_has, has_full, St.has_add]; done) | (simp [-List.map_take, -List.map_drop, or_imp, forall_and, Seg.a, Vec.a, Leg.a, num, okEl, cells_agg, cells_int, cells_sl, cells_bool, AV.isCell]; done) | (simp; omega))) (fun _ _ => ?_)) | (with_reducible refine appD_V (by refine ⟨?_, ?_, ?_, ?_, ?_⟩ <;> (first | assumption | omega | exact St.has_add (by assumption) | (simp only [ins_has]; exact St.has_add (by assumption)) | (simp only [ins_has, fresh_ins, kill_ins, add_ins] at *; exact St.has_add (by assumption)) | (simp only [*, ins_has, has_full, St.has_add]; done) | (simp [-List.map_take, -List.map_drop, or_imp, forall_and, Seg.a, Vec.a, Leg.a, num, okEl, cells_agg, cells_int, cells_sl, cells_bool, AV.isCell]; done) | (simp; omega))) (fun _ _ => ?_))) | (with_reducible refine freshQ_i (fun _ _ => ?_))))
      rename_i b8 hb8
      exact ⟨s', by (refine ⟨fun i o e => ?_, fun _ h => h⟩; revert e; simp only [St.ins, St.del, add_objs, kill_objs]; (repeat' split); all_goals (first | exact id | (intros; contradiction) | (intros; subst_vars; contradiction) | (intros; simp_all; done) | (intros; subst_vars; simp_all; done))), acc, tk, ho, rfl, by omega, HN⟩
  · rintro fr s' hfr hd ⟨acc, tk, ho, h18, h5, hal, HA⟩
    rw [List.take_length] at HA
    have hO := Of_v acc (by omega) tk
    have HE : Hid (behindF f a = (ofF acc).1) := ⟨by rw [HB.out, HA.out]⟩
    obtain ⟨w, hw⟩ : ∃ w, ofF acc = w := ⟨_, rfl⟩
    rw [hw] at hO HE
    simp only [num] at hO
    have hun := ho.under
    clear hw HA HB
    (repeat' (first | (simp (maxDischargeDepth := 16) only [*, vX, ↓vD, vU, ↓vMd, vMu, vZ, seval]) | (simp (disch := first | assumption | omega | rfl | exact fun _ => rfl) only [vP]) | ((with_reducible first | apply gsnd | apply csnd | apply gsd | apply csd | apply gsn | apply csn | apply gs | apply cs_) <;> intro _) | (with_reducible refine objQ_i (fun _ _ => ?_); repeat with_reducible refine imp_i (fun _ => ?_)) | ((try with_reducible refine appK_a ?_); first | (with_reducible refine appD_F (by refine ⟨?_, ?_, ?_, ?_⟩ <;> (first | assumption | omega | exact St.has_add (by assumption) | (simp only [ins_has]; exact St.has_add (by assumption)) | (simp only [ins_has, fresh_ins, kill_ins, add_ins] at *; exact St.has_add (by assumption)) | (simp only [*, ins_has, has_full, St.has_add]; done) | (simp [-List.map_take, -List.map_drop, or_imp, forall_and, Seg.a, Vec.a, Leg.a, num, okEl, cells_agg, cells_int, cells_sl, cells_bool, AV.isCell]; done) | (simp; omega))) (fun _ _ => ?_)) | (with_reducible refine appD_V (by refine ⟨?_, ?_, ?_, ?_, ?_⟩ <;> (first | assumption | omega | exact St.has_add (by assumption) | (simp only [ins_has]; exact St.has_add (by assumption)) | (simp only [ins_has, fresh_ins, kill_ins, add_ins] at *; exact St.has_add (by assumption)) | (simp only [*, ins_has, has_full, St.has_add]; done) | (simp [-List.map_take, -List.map_drop, or_imp, forall_and, Seg.a, Vec.a, Leg.a, num, okEl, cells_agg, cells_int, cells_sl, cells_bool, AV.isCell]; done) | (simp; omega))) (fun _ _ => ?_))) | (with_reducible refine freshQ_i (fun _ _ => ?_)) | (with_reducible first | refine callH_use (hO) ?_ | refine pureQ_use (hO) ?_)))
    refine ⟨st, hun, .no, ?_, rfl⟩
    rw [HE.out]
theorem check_v (c l o : List Seg) (hc : c.length ≤ 1000000) (hl : l.length ≤ 1000000) (ho : o.length ≤ 1000000) (t1 t2 t3 : Tok) (a : Int) (ps : List Pol) (hp : ps.length ≤ 1000000000) (t : Tok) :
    VPure Tryz.prog 31 [givA c l o t1 t2 t3 a, .sl (ps.map Pol.a) t] (.int .i64 (checkP c l o ps a)) := fun Z st => by
  have hF := form_v c l o hc hl ho t1 t2 t3 .full
  have hfar := farfit_v a
  obtain ⟨b1, hb1⟩ : ∃ b, (mayF c && mayF l && mayF o) = b := ⟨_, rfl⟩
  obtain ⟨b2, hb2⟩ : ∃ b, farF a = b := ⟨_, rfl⟩
  have HC : Hid (checkP c l o ps a = if b1 then (if ps.any (fun p => decide (2 < p.k)) then 2 else if (b2 || ps.any oddP) then 10 else 0) else 5) := ⟨by unfold checkP; rw [hb1, hb2]⟩
  rw [hb1] at hF
  rw [hb2] at hfar
  clear hb1 hb2
  obtain ⟨E, hE⟩ : ∃ E, checkP c l o ps a = E := ⟨_, rfl⟩
  rw [hE] at HC ⊢
  clear hE
  refine VCalls.of v_fit_check_ok (Nat.le_of_ble_eq_true rfl) ?_
  simp only [v_fit_check, givA, ↓vD, vU, ↓vMd, vMu, vZ, seval, k_app, k_slc1]
  cases b1
  · obtain rfl : E = 5 := HC.out
    clear HC
    (repeat' (first | (simp (maxDischargeDepth := 16) only [*, vX, ↓vD, vU, ↓vMd, vMu, vZ, seval]) | (simp (disch := first | assumption | omega | rfl | exact fun _ => rfl) only [vP]) | ((with_reducible first | apply gsnd | apply csnd | apply gsd | apply csd | apply gsn | apply csn | apply gs | apply cs_) <;> intro _) | (with_reducible refine objQ_i (fun _ _ => ?_); repeat with_reducible refine imp_i (fun _ => ?_)) | (with_reducible first | refine callH_use (hF) ?_ | refine pureQ_use (hF) ?_) | (with_reducible first | refine callH_use (hfar) ?_ | refine pureQ_use (hfar) ?_)))
    all_goals first | done | exact ⟨st, by (refine ⟨fun i o e => ?_, fun _ h => h⟩; revert e; simp only [St.ins, St.del, add_objs, kill_objs]; (repeat' split); all_goals (first | exact id | (intros; contradiction) | (intros; subst_vars; contradiction) | (intros; simp_all; done) | (intros; subst_vars; simp_all; done))), rfl, rfl⟩ | trace_state
  have HC2 : Hid (E = if ps.any (fun p => decide (2 < p.k)) then 2 else if (b2 || ps.any oddP) then 10 else 0) := ⟨by rw [HC.out, if_pos rfl]⟩
  clear HC
  (repeat' (first | (simp (maxDischargeDepth := 16) only [*, vX, ↓vD, vU, ↓vMd, vMu, vZ, seval]) | (simp (disch := first | assumption | omega | rfl | exact fun _ => rfl) only [vP]) | ((with_reducible first | apply gsnd | apply csnd | apply gsd | apply csd | apply gsn | apply csn | apply gs | apply cs_) <;> intro _) | (with_reducible refine objQ_i (fun _ _ => ?_); repeat with_reducible refine imp_i (fun _ => ?_)) | (with_reducible first | refine callH_use (hF) ?_ | refine pureQ_use (hF) ?_) | (with_reducible first | refine callH_use (hfar) ?_ | refine pureQ_use (hfar) ?_)))
  rename_i b3 hb3
  refine loopf_of (len := ps.length) (by simp only [asgL, dsts, List.cons_append, List.nil_append, List.append_nil]; rfl) (by simp only [noR, Bool.and_true, Bool.and_false]; rfl) (by omega) (fun k fr s => s = st.ins b3 (.cells [.sl (c.map Seg.a) t1, .sl (l.map Seg.a) t2, .sl (o.map Seg.a) t3, .int .i64 a]) ∧ fr.t 22 = .int .i64 k ∧ (∃ b, fr.t 5 = .bool b ∧ Hid (b = (b2 || (ps.take k).any oddP))) ∧ Hid ((ps.take k).any (fun p => decide (2 < p.k)) = false)) ?_ ?_ ?_
  · exact ⟨rfl, by simp [↓vD, vU, ↓vMd, vMu, vZ, seval, k_app, k_slc1], ⟨b2, by simp [↓vD, vU, ↓vMd, vMu, vZ, seval, k_app, k_slc1], ⟨by simp⟩⟩, ⟨by simp⟩⟩
  · rintro k fr s hk hwk hfr hd ⟨rfl, h22, ⟨b, h5, HB⟩, HK⟩
    obtain ⟨p, hpk⟩ : ∃ p, ps[k] = p := ⟨_, rfl⟩
    have htk : ps.take (k + 1) = ps.take k ++ [p] := by rw [List.take_add_one, List.getElem?_eq_getElem hk, hpk]; rfl
    have hM := May_v p.cap.m p.cap.c
    obtain ⟨q, hq⟩ : ∃ q, mayV ⟨p.cap.m, p.cap.c⟩ = q := ⟨_, rfl⟩
    have hod : oddP p = (decide (p.k = 1) && !q) := by unfold oddP; rw [← hq]
    rw [hq] at hM
    by_cases h2 : 2 < p.k
    · have he : ps.any (fun p => decide (2 < p.k)) = true := List.any_eq_true.2 ⟨p, hpk ▸ List.getElem_mem hk, decide_eq_true h2⟩
      obtain rfl : E = 2 := by rw [HC2.out, if_pos he]
      clear he HC2 htk hod HB HK hq
      (repeat' (first | (simp (maxDischargeDepth := 16) only [*, Pol.a, vX, ↓vD, vU, ↓vMd, vMu, vZ, seval]) | (simp (disch := first | assumption | omega | rfl | exact fun _ => rfl) only [Pol.a, vP]) | ((with_reducible first | apply gsnd | apply csnd | apply gsd | apply csd | apply gsn | apply csn | apply gs | apply cs_) <;> intro _) | (with_reducible refine objQ_i (fun _ _ => ?_); repeat with_reducible refine imp_i (fun _ => ?_)) | (with_reducible first | refine callH_use (hM) ?_ | refine pureQ_use (hM) ?_)))
      all_goals first | done | exact ⟨st, by (refine ⟨fun i o e => ?_, fun _ h => h⟩; revert e; simp only [St.ins, St.del, add_objs, kill_objs]; (repeat' split); all_goals (first | exact id | (intros; contradiction) | (intros; subst_vars; contradiction) | (intros; simp_all; done) | (intros; subst_vars; simp_all; done))), rfl, rfl⟩ | trace_state
    · have HK2 : Hid ((ps.take (k + 1)).any (fun p => decide (2 < p.k)) = false) := ⟨by rw [htk, List.any_append, HK.out]; simp [h2]⟩
      have HB2 : Hid ((b || (decide (p.k = 1) && !q)) = (b2 || (ps.take (k + 1)).any oddP)) := ⟨by rw [htk, List.any_append, HB.out, ← hod]; simp [Bool.or_assoc]⟩
      clear HK HB htk hod hq
      by_cases h1 : p.k = 1
      · rw [decide_eq_true h1, Bool.true_and] at HB2
        cases b <;> cases q
        all_goals
          (repeat' (first | (simp (maxDischargeDepth := 16) only [*, Pol.a, vX, ↓vD, vU, ↓vMd, vMu, vZ, seval]) | (simp (disch := first | assumption | omega | rfl | exact fun _ => rfl) only [Pol.a, vP]) | ((with_reducible first | apply gsnd | apply csnd | apply gsd | apply csd | apply gsn | apply csn | apply gs | apply cs_) <;> intro _) | (with_reducible refine objQ_i (fun _ _ => ?_); repeat with_reducible refine imp_i (fun _ => ?_)) | (with_reducible first | refine callH_use (hM) ?_ | refine pureQ_use (hM) ?_)))
        all_goals first | done | exact ⟨_, rfl, HB2⟩ | trace_state
      · rw [decide_eq_false h1, Bool.false_and, Bool.or_false] at HB2
        cases b
        all_goals
          (repeat' (first | (simp (maxDischargeDepth := 16) only [*, Pol.a, vX, ↓vD, vU, ↓vMd, vMu, vZ, seval]) | (simp (disch := first | assumption | omega | rfl | exact fun _ => rfl) only [Pol.a, vP]) | ((with_reducible first | apply gsnd | apply csnd | apply gsd | apply csd | apply gsn | apply csn | apply gs | apply cs_) <;> intro _) | (with_reducible refine objQ_i (fun _ _ => ?_); repeat with_reducible refine imp_i (fun _ => ?_)) | (with_reducible first | refine callH_use (hM) ?_ | refine pureQ_use (hM) ?_)))
        all_goals first | done | exact ⟨_, rfl, HB2⟩ | trace_state
  · rintro fr s hfr hd ⟨rfl, h22, ⟨b, h5, HB⟩, HK⟩
    rw [List.take_length] at HB HK
    have HE : Hid (E = if b then 10 else 0) := ⟨by rw [HC2.out, HK.out, HB.out]; rfl⟩
    clear HB HK HC2
    cases b
    · obtain rfl : E = 0 := HE.out
      (repeat' (first | (simp (maxDischargeDepth := 16) only [*, vX, ↓vD, vU, ↓vMd, vMu, vZ, seval]) | (simp (disch := first | assumption | omega | rfl | exact fun _ => rfl) only [vP]) | ((with_reducible first | apply gsnd | apply csnd | apply gsd | apply csd | apply gsn | apply csn | apply gs | apply cs_) <;> intro _) | (with_reducible refine objQ_i (fun _ _ => ?_); repeat with_reducible refine imp_i (fun _ => ?_))))
      all_goals first | done | exact ⟨st, by (refine ⟨fun i o e => ?_, fun _ h => h⟩; revert e; simp only [St.ins, St.del, add_objs, kill_objs]; (repeat' split); all_goals (first | exact id | (intros; contradiction) | (intros; subst_vars; contradiction) | (intros; simp_all; done) | (intros; subst_vars; simp_all; done))), rfl, rfl⟩ | trace_state
    · obtain rfl : E = 10 := HE.out
      (repeat' (first | (simp (maxDischargeDepth := 16) only [*, vX, ↓vD, vU, ↓vMd, vMu, vZ, seval]) | (simp (disch := first | assumption | omega | rfl | exact fun _ => rfl) only [vP]) | ((with_reducible first | apply gsnd | apply csnd | apply gsd | apply csd | apply gsn | apply csn | apply gs | apply cs_) <;> intro _) | (with_reducible refine objQ_i (fun _ _ => ?_); repeat with_reducible refine imp_i (fun _ => ?_))))
      all_goals first | done | exact ⟨st, by (refine ⟨fun i o e => ?_, fun _ h => h⟩; revert e; simp only [St.ins, St.del, add_objs, kill_objs]; (repeat' split); all_goals (first | exact id | (intros; contradiction) | (intros; subst_vars; contradiction) | (intros; simp_all; done) | (intros; subst_vars; simp_all; done))), rfl, rfl⟩ | trace_state
end Go.Proofs.YtglekfgoadehbaaGreatDoor.V
end
section
/- fit's bounds, all, Free. -/
namespace Go.Proofs.YtglekfgoadehbaaGreatDoor.V
open Go Go.Proofs
set_option maxRecDepth 100000
set_option maxHeartbeats 4000000
theorem bounds_v : VPure Tryz.prog 57 [] (.agg [.clo 75 [] [], .clo 76 [] [], .clo 77 [] []]) := by
  refine VPure.of v_fit_bounds_ok (Nat.le_of_ble_eq_true rfl) (fun Z st => ?_)
  simp only [v_fit_bounds, ↓vD, vU, ↓vMd, vMu, vZ, seval, k_app, k_slc1]
  (repeat' (first | (simp (maxDischargeDepth := 16) only [*, vX, ↓vD, vU, ↓vMd, vMu, vZ, seval]) | (simp (disch := first | assumption | omega | rfl | exact fun _ => rfl) only [vP]) | ((with_reducible first | apply gsnd | apply csnd | apply gsd | apply csd | apply gsn | apply csn | apply gs | apply cs_) <;> intro _) | (with_reducible refine objQ_i (fun _ _ => ?_); repeat with_reducible refine imp_i (fun _ => ?_))))
theorem bound_v (c l o : List Seg) (hc : c.length ≤ 1000000) (hl : l.length ≤ 1000000) (ho : o.length ≤ 1000000) (t1 t2 t3 : Tok) (a : Int) (p : Pol) (hk : p.k = 0 ∨ p.k = 1 ∨ p.k = 2) :
    ∃ g x, vixa 3 1 true (.agg [.clo 75 [] [], .clo 76 [] [], .clo 77 [] []]) (.int .u8 p.k) = some x ∧ vfld 0 1 false x = some (.clo g [] []) ∧ VPure Tryz.prog g [givA c l o t1 t2 t3 a, p.a] (.tup [.sl ((boundF c l o a p).1.map Seg.a) .no, .int .i64 (boundF c l o a p).2]) := by
  unfold boundF
  rcases hk with h | h | h
  · refine ⟨75, _, by rw [h]; rfl, rfl, ?_⟩
    rw [if_pos h, ← sub_do]
    exact commit_v c l o hc hl t1 t2 t3 a p
  · refine ⟨76, _, by rw [h]; rfl, rfl, ?_⟩
    rw [if_neg (by omega), if_pos h, ← sub_do]
    exact user_v c l o ho t1 t2 t3 a p
  · refine ⟨77, _, by rw [h]; rfl, rfl, ?_⟩
    rw [if_neg (by omega), if_neg (by omega)]
    exact none_v c l o t1 t2 t3 a p
theorem bound_len (c l o : List Seg) (a : Int) (p : Pol) : (boundF c l o a p).1.length ≤ c.length + l.length + o.length + 1 := by
  unfold boundF
  split
  · rw [← sub_do]; have := madeF_len subV c l; omega
  · split
    · rw [← sub_do]; have := madeF_len subV (alwaysF p.cap a) o; have := always_len p.cap a; omega
    · have := always_len fullV a; simp only; omega
theorem all_v (c l o : List Seg) (hn : c.length + l.length + o.length ≤ 2000) (t1 t2 t3 : Tok) (a : Int) (ps : List Pol) (hp : ps.length ≤ 100) (hk : ∀ p ∈ ps, p.k = 0 ∨ p.k = 1 ∨ p.k = 2) (t : Tok) :
    VPure Tryz.prog 32 [givA c l o t1 t2 t3 a, .sl (ps.map Pol.a) t] (.tup [.sl ((allF c l o a ps (alwaysF fullV a)).1.map Seg.a) .no, .int .i64 (allF c l o a ps (alwaysF fullV a)).2]) := by
  refine VPure.tokT (fun Z st => ?_)
  have hA := always_v fullV a
  have hAl := always_len fullV a
  obtain ⟨f0, hf0⟩ : ∃ f, alwaysF fullV a = f := ⟨_, rfl⟩
  rw [hf0] at hA hAl ⊢
  clear hf0
  simp only [fullV] at hA
  have hB := bounds_v
  obtain ⟨E, hE⟩ : ∃ E, allF c l o a ps f0 = E := ⟨_, rfl⟩
  have HE : Hid (allF c l o a ps f0 = E) := ⟨hE⟩
  rw [hE]
  clear hE
  refine VCalls.of v_fit_all_ok (Nat.le_of_ble_eq_true rfl) ?_
  simp only [v_fit_all, givA, ↓vD, vU, ↓vMd, vMu, vZ, seval, k_app, k_slc1]
  (repeat' (first | (simp (maxDischargeDepth := 16) only [*, vX, ↓vD, vU, ↓vMd, vMu, vZ, seval]) | (simp (disch := first | assumption | omega | rfl | exact fun _ => rfl) only [vP]) | ((with_reducible first | apply gsnd | apply csnd | apply gsd | apply csd | apply gsn | apply csn | apply gs | apply cs_) <;> intro _) | (with_reducible refine objQ_i (fun _ _ => ?_); repeat with_reducible refine imp_i (fun _ => ?_)) | (with_reducible first | refine callH_use (hA) ?_ | refine pureQ_use (hA) ?_)))
  rename_i b3 hb3
  refine loopf_of (len := ps.length) (by simp only [asgL, dsts, List.cons_append, List.nil_append, List.append_nil]; rfl) (by simp only [noR, Bool.and_true, Bool.and_false]; rfl) (by omega) (fun k fr s => s = st.ins b3 (.cells [.sl (c.map Seg.a) t1, .sl (l.map Seg.a) t2, .sl (o.map Seg.a) t3, .int .i64 a]) ∧ fr.t 17 = .int .i64 k ∧ ∃ f', fr.t 6 = .sl (f'.map Seg.a) .no ∧ f'.length ≤ 1 + k * 2001 ∧ Hid (allF c l o a (ps.drop k) f' = E)) ?_ ?_ ?_
  · exact ⟨rfl, by simp [↓vD, vU, ↓vMd, vMu, vZ, seval, k_app, k_slc1], f0, by simp [↓vD, vU, ↓vMd, vMu, vZ, seval, k_app, k_slc1], by omega, ⟨HE.out⟩⟩
  · rintro k fr s hk' hwk hfr hd ⟨rfl, h17, f', h6, hfl, HA⟩
    obtain ⟨p, hpk⟩ : ∃ p, ps[k] = p := ⟨_, rfl⟩
    have hd1 : ps.drop k = p :: ps.drop (k + 1) := by rw [List.drop_eq_getElem_cons hk', hpk]
    obtain ⟨g, x, i1, i2, hG⟩ := bound_v c l o (by omega) (by omega) (by omega) t1 t2 t3 a p (hk p (hpk ▸ List.getElem_mem hk'))
    have hbl := bound_len c l o a p
    have HS : Hid (E = if (boundF c l o a p).2 = 0 then (if (doR 2 f' (boundF c l o a p).1).2 = 0 then allF c l o a (ps.drop (k + 1)) (doR 2 f' (boundF c l o a p).1).1 else ([], (doR 2 f' (boundF c l o a p).1).2)) else ([], (boundF c l o a p).2)) := ⟨by rw [← HA.out, hd1]; rfl⟩
    clear HA hd1
    obtain ⟨w, hw⟩ : ∃ w, boundF c l o a p = w := ⟨_, rfl⟩
    rw [hw] at hG hbl HS
    clear hw
    obtain ⟨h, e⟩ := w
    simp only at hG hbl HS
    have hkb : k * 2001 ≤ 100 * 2001 := Nat.mul_le_mul_right _ (by omega)
    have hM := Min_c f' h (by omega) (by omega) .no .no
    rw [min_do] at hM
    have hml : (doR 2 f' h).1.length ≤ f'.length + h.length := by rw [← min_do]; exact madeF_len _ _ _
    obtain ⟨v, hv⟩ : ∃ v, doR 2 f' h = v := ⟨_, rfl⟩
    rw [hv] at hM hml HS
    clear hv
    obtain ⟨f2, e2⟩ := v
    simp only at hM hml HS
    simp only [num] at hM
    simp only [givA, Pol.a] at hG
    by_cases h0 : e = 0
    · subst h0
      rw [if_pos rfl] at HS
      by_cases h1 : e2 = 0
      · subst h1
        rw [if_pos rfl] at HS
        have HS2 : Hid (allF c l o a (ps.drop (k + 1)) f2 = E) := ⟨HS.out.symm⟩
        clear HS hk
        (repeat' (first | (simp (maxDischargeDepth := 16) only [*, Pol.a, i1, i2, vX, ↓vD, vU, ↓vMd, vMu, vZ, seval]) | (simp (disch := first | assumption | omega | rfl | exact fun _ => rfl) only [Pol.a, i1, i2, vP]) | ((with_reducible first | apply gsnd | apply csnd | apply gsd | apply csd | apply gsn | apply csn | apply gs | apply cs_) <;> intro _) | (with_reducible refine objQ_i (fun _ _ => ?_); repeat with_reducible refine imp_i (fun _ => ?_)) | (with_reducible first | refine callH_use (hB) ?_ | refine pureQ_use (hB) ?_) | (with_reducible first | refine callH_use (hG) ?_ | refine pureQ_use (hG) ?_) | (with_reducible first | refine callH_use (hM) ?_ | refine pureQ_use (hM) ?_)))
        exact ⟨f2, rfl, by omega, HS2⟩
      · rw [if_neg h1] at HS
        obtain rfl : E = ([], e2) := HS.out
        clear HS HE hk
        (repeat' (first | (simp (maxDischargeDepth := 16) only [*, Pol.a, i1, i2, vX, ↓vD, vU, ↓vMd, vMu, vZ, seval]) | (simp (disch := first | assumption | omega | rfl | exact fun _ => rfl) only [Pol.a, i1, i2, vP]) | ((with_reducible first | apply gsnd | apply csnd | apply gsd | apply csd | apply gsn | apply csn | apply gs | apply cs_) <;> intro _) | (with_reducible refine objQ_i (fun _ _ => ?_); repeat with_reducible refine imp_i (fun _ => ?_)) | (with_reducible first | refine callH_use (hB) ?_ | refine pureQ_use (hB) ?_) | (with_reducible first | refine callH_use (hG) ?_ | refine pureQ_use (hG) ?_) | (with_reducible first | refine callH_use (hM) ?_ | refine pureQ_use (hM) ?_)))
        exact ⟨st, by (refine ⟨fun i o e => ?_, fun _ h => h⟩; revert e; simp only [St.ins, St.del, add_objs, kill_objs]; (repeat' split); all_goals (first | exact id | (intros; contradiction) | (intros; subst_vars; contradiction) | (intros; simp_all; done) | (intros; subst_vars; simp_all; done))), _, rfl, rfl⟩
    · rw [if_neg h0] at HS
      obtain rfl : E = ([], e) := HS.out
      clear HS HE hk
      (repeat' (first | (simp (maxDischargeDepth := 16) only [*, Pol.a, i1, i2, vX, ↓vD, vU, ↓vMd, vMu, vZ, seval]) | (simp (disch := first | assumption | omega | rfl | exact fun _ => rfl) only [Pol.a, i1, i2, vP]) | ((with_reducible first | apply gsnd | apply csnd | apply gsd | apply csd | apply gsn | apply csn | apply gs | apply cs_) <;> intro _) | (with_reducible refine objQ_i (fun _ _ => ?_); repeat with_reducible refine imp_i (fun _ => ?_)) | (with_reducible first | refine callH_use (hB) ?_ | refine pureQ_use (hB) ?_) | (with_reducible first | refine callH_use (hG) ?_ | refine pureQ_use (hG) ?_) | (with_reducible first | refine callH_use (hM) ?_ | refine pureQ_use (hM) ?_)))
      exact ⟨st, by (refine ⟨fun i o e => ?_, fun _ h => h⟩; revert e; simp only [St.ins, St.del, add_objs, kill_objs]; (repeat' split); all_goals (first | exact id | (intros; contradiction) | (intros; subst_vars; contradiction) | (intros; simp_all; done) | (intros; subst_vars; simp_all; done))), _, rfl, rfl⟩
  · rintro fr s hfr hd ⟨rfl, h17, f', h6, hfl, HA⟩
    rw [List.drop_length] at HA
    obtain rfl : E = (f', 0) := HA.out.symm
    clear HA HE
    (repeat' (first | (simp (maxDischargeDepth := 16) only [*, vX, ↓vD, vU, ↓vMd, vMu, vZ, seval]) | (simp (disch := first | assumption | omega | rfl | exact fun _ => rfl) only [vP]) | ((with_reducible first | apply gsnd | apply csnd | apply gsd | apply csd | apply gsn | apply csn | apply gs | apply cs_) <;> intro _) | (with_reducible refine objQ_i (fun _ _ => ?_); repeat with_reducible refine imp_i (fun _ => ?_))))
    exact ⟨st, by (refine ⟨fun i o e => ?_, fun _ h => h⟩; revert e; simp only [St.ins, St.del, add_objs, kill_objs]; (repeat' split); all_goals (first | exact id | (intros; contradiction) | (intros; subst_vars; contradiction) | (intros; simp_all; done) | (intros; subst_vars; simp_all; done))), _, rfl, rfl⟩
theorem behind_len (f : List Seg) (a : Int) : (behindF f a).length ≤ f.length + 1 := by
  have := ofF_len (⟨a, atF f a⟩ :: f.filter fun x => decide (a < x.t))
  have h2 := List.length_filter_le (fun x : Seg => decide (a < x.t)) f
  unfold behindF
  simp only [List.length_cons] at this
  omega
theorem check_k {c l o : List Seg} {ps : List Pol} {a : Int} (h : checkP c l o ps a = 0) : ∀ p ∈ ps, p.k ≤ 2 := by
  intro p hp
  unfold checkP at h
  split at h
  · split at h
    · cases h
    · rename_i h2
      by_cases h3 : 2 < p.k
      · exact absurd (List.any_eq_true.2 ⟨p, hp, decide_eq_true h3⟩) h2
      · omega
  · cases h
theorem Free_v (c l o : List Seg) (hn : c.length + l.length + o.length ≤ 1000) (t1 t2 t3 : Tok) (ps : List Pol) (hp : ps.length ≤ 100) (hk : ∀ p ∈ ps, 0 ≤ p.k) (t : Tok) (a : Int) :
    VPure Tryz.prog 13 [.sl (c.map Seg.a) t1, .sl (l.map Seg.a) t2, .sl (o.map Seg.a) t3, .sl (ps.map Pol.a) t, .int .i64 a] (.tup [.sl ((freeF c l o ps a).1.map Seg.a) .no, .int .i64 (freeF c l o ps a).2]) := by
  refine VPure.tokT (fun Z st => ?_)
  have hC := check_v c l o (by omega) (by omega) (by omega) t1 t2 t3 a ps (by omega) t
  simp only [givA] at hC
  obtain ⟨E, hE⟩ : ∃ E, freeF c l o ps a = E := ⟨_, rfl⟩
  by_cases h0 : checkP c l o ps a = 0
  · have h1 := behind_v c (by omega) t1 a
    have h2 := behind_v l (by omega) t2 a
    have h3 := behind_v o (by omega) t3 a
    have k1 := behind_len c a
    have k2 := behind_len l a
    have k3 := behind_len o a
    have hk2 := check_k h0
    have hA := all_v (behindF c a) (behindF l a) (behindF o a) (by omega) .no .no .no a ps hp (fun p hp => by have := hk p hp; have := hk2 p hp; omega) t
    have HE : allF (behindF c a) (behindF l a) (behindF o a) a ps (alwaysF fullV a) = E := by rw [← hE]; unfold freeF; rw [if_neg (by omega)]
    rw [HE] at hA
    rw [hE]
    rw [h0] at hC
    simp only [givA] at hA
    clear hE HE h0 hk hk2 k1 k2 k3
    obtain ⟨x, hx⟩ : ∃ x, behindF c a = x := ⟨_, rfl⟩
    obtain ⟨y, hy⟩ : ∃ x, behindF l a = x := ⟨_, rfl⟩
    obtain ⟨z, hz⟩ : ∃ x, behindF o a = x := ⟨_, rfl⟩
    rw [hx] at h1 hA
    rw [hy] at h2 hA
    rw [hz] at h3 hA
    clear hx hy hz
    refine VCalls.of v_fit_Free_ok (Nat.le_of_ble_eq_true rfl) ?_
    simp only [v_fit_Free, ↓vD, vU, ↓vMd, vMu, vZ, seval, k_app, k_slc1]
    (repeat' (first | (simp (maxDischargeDepth := 16) only [*, vX, ↓vD, vU, ↓vMd, vMu, vZ, seval]) | (simp (disch := first | assumption | omega | rfl | exact fun _ => rfl) only [vP]) | ((with_reducible first | apply gsnd | apply csnd | apply gsd | apply csd | apply gsn | apply csn | apply gs | apply cs_) <;> intro _) | (with_reducible first | refine callH_use (hC) ?_ | refine pureQ_use (hC) ?_) | (with_reducible first | refine callH_use (h1) ?_ | refine pureQ_use (h1) ?_) | (with_reducible first | refine callH_use (h2) ?_ | refine pureQ_use (h2) ?_) | (with_reducible first | refine callH_use (h3) ?_ | refine pureQ_use (h3) ?_) | (with_reducible first | refine callH_use (hA) ?_ | refine pureQ_use (hA) ?_)))
    exact ⟨st, St.le.refl _, _, rfl, rfl⟩
  · have HE : E = ([], checkP c l o ps a) := by rw [← hE]; unfold freeF; rw [if_pos h0]
    rw [hE, HE]
    obtain ⟨e, he⟩ : ∃ e, checkP c l o ps a = e := ⟨_, rfl⟩
    rw [he] at h0 hC ⊢
    clear hE HE he hk
    refine VCalls.of v_fit_Free_ok (Nat.le_of_ble_eq_true rfl) ?_
    simp only [v_fit_Free, ↓vD, vU, ↓vMd, vMu, vZ, seval, k_app, k_slc1]
    (repeat' (first | (simp (maxDischargeDepth := 16) only [*, vX, ↓vD, vU, ↓vMd, vMu, vZ, seval]) | (simp (disch := first | assumption | omega | rfl | exact fun _ => rfl) only [vP]) | ((with_reducible first | apply gsnd | apply csnd | apply gsd | apply csd | apply gsn | apply csn | apply gs | apply cs_) <;> intro _) | (with_reducible first | refine callH_use (hC) ?_ | refine pureQ_use (hC) ?_)))
    exact ⟨st, St.le.refl _, _, rfl, rfl⟩
end Go.Proofs.YtglekfgoadehbaaGreatDoor.V
end
section
/- The compiled functions of the package liverylaw15 (printed by Print.lean of this work). -/
namespace Go.Proofs.YtglekfgoadehbaaGreatDoor.V
open Go Go.Proofs
def v_liverylaw15_FitTells : VFn := ⟨.seq (.reg [⟨some 3, .box (.t 1), none, [], []⟩,
 ⟨some 4, .mov (.c (.bool false)), none, [], []⟩])
(.seq (.seq (.reg [⟨some 17, .mov (.t 0), none, [], []⟩,
 ⟨some 18, .len (.t 17), none, [0], []⟩,
 ⟨some 19, .bin .gtr (.t 18) (.c (.int .i64 60)), none, [1], []⟩])
(.cond (.t 19)
 (.seq (.reg [⟨some 20, .call 4 [], none, [], []⟩,
 ⟨some 4, .mov (.t 20), none, [0, 0, 0], []⟩])
 (.ret))
 (.skip)))
(.seq (.reg [⟨some 22, .mov (.t 0), none, [], []⟩,
 ⟨some 23, .fad 0 (.t 3), none, [], []⟩,
 ⟨some 24, .load 1 false (.t 23), none, [1], []⟩,
 ⟨some 25, .fad 1 (.t 3), none, [], []⟩,
 ⟨some 26, .load 1 false (.t 25), none, [3], []⟩,
 ⟨some 27, .fad 2 (.t 3), none, [], []⟩,
 ⟨some 28, .load 2 true (.t 27), none, [5], []⟩,
 ⟨some 29, .call 5 [(.t 22), (.t 24), (.t 26), (.t 28)], none, [0, 2, 4, 6], []⟩,
 ⟨some 21, .mov (.t 29), none, [7], []⟩,
 ⟨some 30, .ext (.t 21) 0, none, [8], []⟩,
 ⟨some 31, .ext (.t 21) 1, none, [8], []⟩,
 ⟨some 5, .mov (.t 30), none, [9, 7, 0, 1, 2, 3, 4, 5, 6, 7, 8, 9], []⟩,
 ⟨some 6, .mov (.t 31), none, [10, 11, 0, 1, 2, 3, 4, 5, 6, 7, 8, 9, 10, 11], []⟩])
(.seq (.reg [⟨some 33, .mov (.t 0), none, [], []⟩,
 ⟨some 34, .fad 0 (.t 3), none, [], []⟩,
 ⟨some 35, .load 1 false (.t 34), none, [1], []⟩,
 ⟨some 36, .fad 1 (.t 3), none, [], []⟩,
 ⟨some 37, .load 1 false (.t 36), none, [3], []⟩,
 ⟨some 38, .fad 2 (.t 3), none, [], []⟩,
 ⟨some 39, .load 2 true (.t 38), none, [5], []⟩,
 ⟨some 40, .call 6 [(.t 33), (.t 35), (.t 37), (.t 39)], none, [0, 2, 4, 6], []⟩,
 ⟨some 32, .mov (.t 40), none, [7], []⟩,
 ⟨some 41, .ext (.t 32) 0, none, [8], []⟩,
 ⟨some 42, .ext (.t 32) 1, none, [8], []⟩,
 ⟨some 7, .mov (.t 41), none, [9, 7, 0, 1, 2, 3, 4, 5, 6, 7, 8, 9], []⟩,
 ⟨some 8, .mov (.t 42), none, [10, 11, 0, 1, 2, 3, 4, 5, 6, 7, 8, 9, 10, 11], []⟩])
(.seq (.reg [⟨some 44, .mov (.t 0), none, [], []⟩,
 ⟨some 45, .fad 0 (.t 3), none, [], []⟩,
 ⟨some 46, .load 1 false (.t 45), none, [1], []⟩,
 ⟨some 47, .fad 1 (.t 3), none, [], []⟩,
 ⟨some 48, .load 1 false (.t 47), none, [3], []⟩,
 ⟨some 49, .fad 2 (.t 3), none, [], []⟩,
 ⟨some 50, .load 2 true (.t 49), none, [5], []⟩,
 ⟨some 51, .call 7 [(.t 44), (.t 46), (.t 48), (.t 50)], none, [0, 2, 4, 6], []⟩,
 ⟨some 43, .mov (.t 51), none, [7], []⟩,
 ⟨some 52, .ext (.t 43) 0, none, [8], []⟩,
 ⟨some 53, .ext (.t 43) 1, none, [8], []⟩,
 ⟨some 9, .mov (.t 52), none, [9, 7, 0, 1, 2, 3, 4, 5, 6, 7, 8, 9], []⟩,
 ⟨some 10, .mov (.t 53), none, [10, 11, 0, 1, 2, 3, 4, 5, 6, 7, 8, 9, 10, 11], []⟩])
(.seq (.reg [⟨some 55, .mov (.t 0), none, [], []⟩,
 ⟨some 56, .fad 0 (.t 3), none, [], []⟩,
 ⟨some 57, .load 1 false (.t 56), none, [1], []⟩,
 ⟨some 58, .fad 1 (.t 3), none, [], []⟩,
 ⟨some 59, .load 1 false (.t 58), none, [3], []⟩,
 ⟨some 60, .fad 2 (.t 3), none, [], []⟩,
 ⟨some 61, .load 2 true (.t 60), none, [5], []⟩,
 ⟨some 62, .call 8 [(.t 55), (.t 57), (.t 59), (.t 61)], none, [0, 2, 4, 6], []⟩,
 ⟨some 54, .mov (.t 62), none, [7], []⟩,
 ⟨some 63, .ext (.t 54) 0, none, [8], []⟩,
 ⟨some 64, .ext (.t 54) 1, none, [8], []⟩,
 ⟨some 11, .mov (.t 63), none, [9, 7, 0, 1, 2, 3, 4, 5, 6, 7, 8, 9], []⟩,
 ⟨some 12, .mov (.t 64), none, [10, 11, 0, 1, 2, 3, 4, 5, 6, 7, 8, 9, 10, 11], []⟩])
(.seq (.reg [⟨some 66, .mov (.t 0), none, [], []⟩,
 ⟨some 67, .fad 0 (.t 3), none, [], []⟩,
 ⟨some 68, .load 1 false (.t 67), none, [1], []⟩,
 ⟨some 69, .fad 1 (.t 3), none, [], []⟩,
 ⟨some 70, .load 1 false (.t 69), none, [3], []⟩,
 ⟨some 71, .fad 2 (.t 3), none, [], []⟩,
 ⟨some 72, .load 2 true (.t 71), none, [5], []⟩,
 ⟨some 73, .call 9 [(.t 66), (.t 68), (.t 70), (.t 72)], none, [0, 2, 4, 6], []⟩,
 ⟨some 65, .mov (.t 73), none, [7], []⟩,
 ⟨some 74, .ext (.t 65) 0, none, [8], []⟩,
 ⟨some 75, .ext (.t 65) 1, none, [8], []⟩,
 ⟨some 13, .mov (.t 74), none, [9, 7, 0, 1, 2, 3, 4, 5, 6, 7, 8, 9], []⟩,
 ⟨some 14, .mov (.t 75), none, [10, 11, 0, 1, 2, 3, 4, 5, 6, 7, 8, 9, 10, 11], []⟩])
(.seq (.reg [⟨some 77, .mov (.t 0), none, [], []⟩,
 ⟨some 78, .fad 0 (.t 3), none, [], []⟩,
 ⟨some 79, .load 1 false (.t 78), none, [1], []⟩,
 ⟨some 80, .fad 1 (.t 3), none, [], []⟩,
 ⟨some 81, .load 1 false (.t 80), none, [3], []⟩,
 ⟨some 82, .fad 2 (.t 3), none, [], []⟩,
 ⟨some 83, .load 2 true (.t 82), none, [5], []⟩,
 ⟨some 84, .call 10 [(.t 77), (.t 79), (.t 81), (.t 83)], none, [0, 2, 4, 6], []⟩,
 ⟨some 76, .mov (.t 84), none, [7], []⟩,
 ⟨some 85, .ext (.t 76) 0, none, [8], []⟩,
 ⟨some 86, .ext (.t 76) 1, none, [8], []⟩,
 ⟨some 15, .mov (.t 85), none, [9, 7, 0, 1, 2, 3, 4, 5, 6, 7, 8, 9], []⟩,
 ⟨some 16, .mov (.t 86), none, [10, 11, 0, 1, 2, 3, 4, 5, 6, 7, 8, 9, 10, 11], []⟩])
(.seq (.reg [⟨some 87, .mov (.t 5), none, [], []⟩,
 ⟨some 88, .mov (.t 7), none, [], []⟩,
 ⟨some 89, .eqs1 false (.t 87) (.t 88), none, [0, 1], []⟩,
 ⟨some 90, .mov (.t 89), none, [2], []⟩,
 ⟨some 91, .mov (.t 6), some (90, true), [3], []⟩,
 ⟨some 92, .mov (.t 8), some (90, true), [3], []⟩,
 ⟨some 93, .bin .eql (.t 91) (.t 92), some (90, true), [4, 5, 3], []⟩,
 ⟨some 94, .pick (.t 90) (.t 93) (.c (.bool false)), none, [3, 6], []⟩,
 ⟨some 95, .mov (.t 94), none, [7, 3], []⟩,
 ⟨some 96, .mov (.t 9), some (95, true), [8], []⟩,
 ⟨some 97, .mov (.t 11), some (95, true), [8], []⟩,
 ⟨some 98, .call 11 [(.t 96), (.t 97)], some (95, true), [9, 10, 8, 8], []⟩,
 ⟨some 99, .pick (.t 95) (.t 98) (.c (.bool false)), none, [8, 11], []⟩,
 ⟨some 100, .mov (.t 99), none, [12, 11], []⟩,
 ⟨some 101, .mov (.t 10), some (100, true), [13], []⟩,
 ⟨some 102, .mov (.t 12), some (100, true), [13], []⟩,
 ⟨some 103, .bin .eql (.t 101) (.t 102), some (100, true), [14, 15, 13], []⟩,
 ⟨some 104, .pick (.t 100) (.t 103) (.c (.bool false)), none, [13, 16], []⟩,
 ⟨some 105, .mov (.t 104), none, [17, 13], []⟩,
 ⟨some 106, .mov (.t 13), some (105, true), [18], []⟩,
 ⟨some 107, .mov (.t 15), some (105, true), [18], []⟩,
 ⟨some 108, .bin .eql (.t 106) (.t 107), some (105, true), [19, 20, 18], []⟩,
 ⟨some 109, .pick (.t 105) (.t 108) (.c (.bool false)), none, [18, 21], []⟩,
 ⟨some 110, .mov (.t 109), none, [22, 18], []⟩,
 ⟨some 111, .mov (.t 14), some (110, true), [23], []⟩,
 ⟨some 112, .mov (.t 16), some (110, true), [23], []⟩,
 ⟨some 113, .bin .eql (.t 111) (.t 112), some (110, true), [24, 25, 23], []⟩,
 ⟨some 114, .pick (.t 110) (.t 113) (.c (.bool false)), none, [23, 26], []⟩,
 ⟨some 115, .mov (.t 114), none, [27, 23], []⟩,
 ⟨some 116, .call 4 [], some (115, true), [28, 28], []⟩,
 ⟨some 117, .pick (.t 115) (.t 116) (.c (.bool false)), none, [28, 29], []⟩,
 ⟨some 4, .mov (.t 117), none, [30, 29, 0, 1, 2, 3, 4, 5, 6, 7, 8, 9, 10, 11, 12, 13, 14, 15, 16, 17, 18, 19, 20, 21, 22, 23, 24, 25, 26, 27, 28, 29, 30], []⟩])
(.ret))))))))),
[.t 4], 118⟩
theorem v_liverylaw15_FitTells_ok : compF Tryz.prog 3 = some v_liverylaw15_FitTells := by kernel_rfl
def v_liverylaw15_head : VFn := ⟨.seq (.reg [⟨some 0, .mov (.c (.bool false)), none, [], []⟩])
(.seq (.reg [⟨some 21, .build [(.int .i64 0), (.int .i64 0)] [(0, 1, (.c (.int .i64 10))), (1, 1, (.c (.int .i64 10)))], none, [], []⟩,
 ⟨some 22, .build [(.int .i64 0), (.int .i64 0), (.int .i64 0)] [(1, 2, (.t 21))], none, [0], []⟩,
 ⟨some 23, .bsl 3 [(.t 22)], none, [1], []⟩,
 ⟨some 1, .mov (.t 23), none, [2, 0, 1, 2], []⟩])
(.seq (.reg [⟨some 24, .call 12 [(.c (.int .i64 2)), (.c (.int .i64 8)), (.c (.int .i64 3)), (.c (.int .i64 1))], none, [], []⟩,
 ⟨some 2, .mov (.t 24), none, [0, 0, 0], []⟩])
(.seq (.reg [⟨some 26, .mov (.t 1), none, [], []⟩,
 ⟨some 27, .mov (.t 2), none, [], []⟩,
 ⟨some 28, .mov (.t 2), none, [], []⟩,
 ⟨some 29, .build [(.int .u8 0), (.int .i64 0), (.int .i64 0), (.int .i64 0)] [], none, [], []⟩,
 ⟨some 30, .bsl 4 [(.t 29)], none, [3], []⟩,
 ⟨some 31, .call 13 [(.t 26), (.t 27), (.t 28), (.t 30), (.c (.int .i64 0))], none, [0, 1, 2, 4], []⟩,
 ⟨some 25, .mov (.t 31), none, [5], []⟩,
 ⟨some 32, .ext (.t 25) 0, none, [6], []⟩,
 ⟨some 33, .ext (.t 25) 1, none, [6], []⟩,
 ⟨some 3, .mov (.t 32), none, [7, 5, 0, 1, 2, 3, 4, 5, 6, 7], []⟩,
 ⟨some 4, .mov (.t 33), none, [8, 9, 0, 1, 2, 3, 4, 5, 6, 7, 8, 9], []⟩])
(.seq (.reg [⟨some 35, .mov (.t 1), none, [], []⟩,
 ⟨some 36, .mov (.t 2), none, [], []⟩,
 ⟨some 37, .mov (.t 2), none, [], []⟩,
 ⟨some 38, .build [(.int .i64 0), (.int .i64 0)] [(0, 1, (.c (.int .i64 4))), (1, 1, (.c (.int .i64 4)))], none, [], []⟩,
 ⟨some 39, .build [(.int .u8 0), (.int .i64 0), (.int .i64 0), (.int .i64 0)] [(0, 1, (.c (.int .u8 1))), (1, 2, (.t 38))], none, [3], []⟩,
 ⟨some 40, .bsl 4 [(.t 39)], none, [4], []⟩,
 ⟨some 41, .call 13 [(.t 35), (.t 36), (.t 37), (.t 40), (.c (.int .i64 3))], none, [0, 1, 2, 5], []⟩,
 ⟨some 34, .mov (.t 41), none, [6], []⟩,
 ⟨some 42, .ext (.t 34) 0, none, [7], []⟩,
 ⟨some 43, .ext (.t 34) 1, none, [7], []⟩,
 ⟨some 5, .mov (.t 42), none, [8, 6, 0, 1, 2, 3, 4, 5, 6, 7, 8], []⟩,
 ⟨some 6, .mov (.t 43), none, [9, 10, 0, 1, 2, 3, 4, 5, 6, 7, 8, 9, 10], []⟩])
(.seq (.reg [⟨some 45, .mov (.t 3), none, [], []⟩,
 ⟨some 46, .build [(.int .i64 0), (.int .i64 0)] [(0, 1, (.c (.int .i64 7))), (1, 1, (.c (.int .i64 9)))], none, [], []⟩,
 ⟨some 47, .call 5 [(.t 45), (.c (.int .i64 1)), (.c (.int .i64 3)), (.t 46)], none, [0, 1], []⟩,
 ⟨some 44, .mov (.t 47), none, [2], []⟩,
 ⟨some 48, .ext (.t 44) 0, none, [3], []⟩,
 ⟨some 49, .ext (.t 44) 1, none, [3], []⟩,
 ⟨some 7, .mov (.t 48), none, [4, 2, 0, 1, 2, 3, 4], []⟩,
 ⟨some 8, .mov (.t 49), none, [5, 6, 0, 1, 2, 3, 4, 5, 6], []⟩])
(.seq (.reg [⟨some 51, .mov (.t 3), none, [], []⟩,
 ⟨some 52, .build [(.int .i64 0), (.int .i64 0)] [(0, 1, (.c (.int .i64 8))), (1, 1, (.c (.int .i64 1)))], none, [], []⟩,
 ⟨some 53, .call 5 [(.t 51), (.c (.int .i64 1)), (.c (.int .i64 2)), (.t 52)], none, [0, 1], []⟩,
 ⟨some 50, .mov (.t 53), none, [2], []⟩,
 ⟨some 54, .ext (.t 50) 0, none, [3], []⟩,
 ⟨some 55, .ext (.t 50) 1, none, [3], []⟩,
 ⟨some 9, .mov (.t 54), none, [4, 2, 0, 1, 2, 3, 4], []⟩,
 ⟨some 10, .mov (.t 55), none, [5, 6, 0, 1, 2, 3, 4, 5, 6], []⟩])
(.seq (.reg [⟨some 57, .mov (.t 3), none, [], []⟩,
 ⟨some 58, .build [(.int .i64 0), (.int .i64 0)] [(0, 1, (.c (.int .i64 2))), (1, 1, (.c (.int .i64 2)))], none, [], []⟩,
 ⟨some 59, .call 9 [(.t 57), (.c (.int .i64 0)), (.c (.int .i64 9)), (.t 58)], none, [0, 1], []⟩,
 ⟨some 56, .mov (.t 59), none, [2], []⟩,
 ⟨some 60, .ext (.t 56) 0, none, [3], []⟩,
 ⟨some 61, .ext (.t 56) 1, none, [3], []⟩,
 ⟨some 11, .mov (.t 60), none, [4, 2, 0, 1, 2, 3, 4], []⟩,
 ⟨some 12, .mov (.t 61), none, [5, 6, 0, 1, 2, 3, 4, 5, 6], []⟩])
(.seq (.reg [⟨some 63, .mov (.t 3), none, [], []⟩,
 ⟨some 64, .build [(.int .i64 0), (.int .i64 0)] [(0, 1, (.c (.int .i64 10))), (1, 1, (.c (.int .i64 10)))], none, [], []⟩,
 ⟨some 65, .call 7 [(.t 63), (.c (.int .i64 0)), (.c (.int .i64 2)), (.t 64)], none, [0, 1], []⟩,
 ⟨some 62, .mov (.t 65), none, [2], []⟩,
 ⟨some 66, .ext (.t 62) 0, none, [3], []⟩,
 ⟨some 67, .ext (.t 62) 1, none, [3], []⟩,
 ⟨some 13, .mov (.t 66), none, [4, 2, 0, 1, 2, 3, 4], []⟩,
 ⟨some 14, .mov (.t 67), none, [5, 6, 0, 1, 2, 3, 4, 5, 6], []⟩])
(.seq (.reg [⟨some 69, .mov (.t 3), none, [], []⟩,
 ⟨some 70, .build [(.int .i64 0), (.int .i64 0)] [], none, [], []⟩,
 ⟨some 71, .call 5 [(.t 69), (.c (.int .i64 0)), (.c (.int .i64 0)), (.t 70)], none, [0, 1], []⟩,
 ⟨some 68, .mov (.t 71), none, [2], []⟩,
 ⟨some 72, .ext (.t 68) 0, none, [3], []⟩,
 ⟨some 73, .ext (.t 68) 1, none, [3], []⟩,
 ⟨some 15, .mov (.t 72), none, [4, 2, 0, 1, 2, 3, 4], []⟩,
 ⟨some 16, .mov (.t 73), none, [5, 6, 0, 1, 2, 3, 4, 5, 6], []⟩])
(.seq (.reg [⟨some 75, .mov (.t 1), none, [], []⟩,
 ⟨some 76, .mov (.t 2), none, [], []⟩,
 ⟨some 77, .mov (.t 2), none, [], []⟩,
 ⟨some 78, .build [(.int .u8 0), (.int .i64 0), (.int .i64 0), (.int .i64 0)] [(0, 1, (.c (.int .u8 3)))], none, [], []⟩,
 ⟨some 79, .bsl 4 [(.t 78)], none, [3], []⟩,
 ⟨some 80, .call 13 [(.t 75), (.t 76), (.t 77), (.t 79), (.c (.int .i64 0))], none, [0, 1, 2, 4], []⟩,
 ⟨some 74, .mov (.t 80), none, [5], []⟩,
 ⟨some 81, .ext (.t 74) 0, none, [6], []⟩,
 ⟨some 82, .ext (.t 74) 1, none, [6], []⟩,
 ⟨some 17, .mov (.t 81), none, [7, 5, 0, 1, 2, 3, 4, 5, 6, 7], []⟩,
 ⟨some 18, .mov (.t 82), none, [8, 9, 0, 1, 2, 3, 4, 5, 6, 7, 8, 9], []⟩])
(.seq (.reg [⟨some 83, .build [(.int .i64 0), (.int .i64 0)] [(0, 1, (.c (.int .i64 10))), (1, 1, (.c (.int .i64 10)))], none, [], []⟩,
 ⟨some 19, .alloc [(.int .i64 0), (.int .i64 0)], none, [], []⟩,
 ⟨none, .store 2 (.t 19) (.t 83), none, [1, 0, 0, 1], []⟩])
(.seq (.reg [⟨some 84, .build [(.int .i64 0), (.int .i64 0)] [(0, 1, (.c (.int .i64 7))), (1, 1, (.c (.int .i64 9)))], none, [], []⟩,
 ⟨some 20, .alloc [(.int .i64 0), (.int .i64 0)], none, [], []⟩,
 ⟨none, .store 2 (.t 20) (.t 84), none, [1, 0, 0, 1], []⟩])
(.seq (.reg [⟨some 85, .mov (.t 3), none, [], []⟩,
 ⟨some 86, .load 2 true (.t 19), none, [], []⟩,
 ⟨some 87, .build [(.int .i64 0), (.int .i64 0), (.int .i64 0)] [(1, 2, (.t 86))], none, [1], []⟩,
 ⟨some 88, .load 2 true (.t 20), none, [], []⟩,
 ⟨some 89, .build [(.int .i64 0), (.int .i64 0), (.int .i64 0)] [(0, 1, (.c (.int .i64 2))), (1, 2, (.t 88))], none, [3], []⟩,
 ⟨some 90, .load 2 true (.t 19), none, [], []⟩,
 ⟨some 91, .build [(.int .i64 0), (.int .i64 0), (.int .i64 0)] [(0, 1, (.c (.int .i64 8))), (1, 2, (.t 90))], none, [5], []⟩,
 ⟨some 92, .bsl 3 [(.t 87), (.t 89), (.t 91)], none, [2, 4, 6], []⟩,
 ⟨some 93, .call 11 [(.t 85), (.t 92)], none, [0, 7], []⟩,
 ⟨some 94, .mov (.t 93), none, [8, 8], []⟩,
 ⟨some 95, .mov (.t 4), some (94, true), [9], []⟩,
 ⟨some 96, .bin .eql (.t 95) (.c (.int .i64 0)), some (94, true), [10, 9], []⟩,
 ⟨some 97, .pick (.t 94) (.t 96) (.c (.bool false)), none, [9, 11], []⟩,
 ⟨some 98, .mov (.t 97), none, [12, 9], []⟩,
 ⟨some 99, .mov (.t 5), some (98, true), [13], []⟩,
 ⟨some 100, .build [(.int .i64 0), (.int .i64 0)] [(0, 1, (.c (.int .i64 1))), (1, 1, (.c (.int .i64 3)))], some (98, true), [13], []⟩,
 ⟨some 101, .build [(.int .i64 0), (.int .i64 0), (.int .i64 0)] [(0, 1, (.c (.int .i64 3))), (1, 2, (.t 100))], some (98, true), [15, 13], []⟩,
 ⟨some 102, .build [(.int .i64 0), (.int .i64 0)] [(0, 1, (.c (.int .i64 4))), (1, 1, (.c (.int .i64 4)))], some (98, true), [13], []⟩,
 ⟨some 103, .build [(.int .i64 0), (.int .i64 0), (.int .i64 0)] [(0, 1, (.c (.int .i64 8))), (1, 2, (.t 102))], some (98, true), [17, 13], []⟩,
 ⟨some 104, .bsl 3 [(.t 101), (.t 103)], some (98, true), [16, 18, 13], []⟩,
 ⟨some 105, .call 11 [(.t 99), (.t 104)], some (98, true), [14, 19, 13, 13], []⟩,
 ⟨some 106, .pick (.t 98) (.t 105) (.c (.bool false)), none, [13, 20], []⟩,
 ⟨some 107, .mov (.t 106), none, [21, 20], []⟩,
 ⟨some 108, .mov (.t 6), some (107, true), [22], []⟩,
 ⟨some 109, .bin .eql (.t 108) (.c (.int .i64 0)), some (107, true), [23, 22], []⟩,
 ⟨some 110, .pick (.t 107) (.t 109) (.c (.bool false)), none, [22, 24], []⟩,
 ⟨some 111, .mov (.t 110), none, [25, 22], []⟩,
 ⟨some 112, .mov (.t 7), some (111, true), [26], []⟩,
 ⟨some 113, .pick (.t 111) (.t 112) (.c (.bool false)), none, [26, 27], []⟩,
 ⟨some 114, .mov (.t 113), none, [28, 26], []⟩,
 ⟨some 115, .mov (.t 8), some (114, true), [29], []⟩,
 ⟨some 116, .bin .eql (.t 115) (.c (.int .i64 0)), some (114, true), [30, 29], []⟩,
 ⟨some 117, .pick (.t 114) (.t 116) (.c (.bool false)), none, [29, 31], []⟩,
 ⟨some 118, .mov (.t 117), none, [32, 29], []⟩,
 ⟨some 119, .mov (.t 9), some (118, true), [33], []⟩,
 ⟨some 120, .un .not (.t 119), some (118, true), [34, 33], []⟩,
 ⟨some 121, .pick (.t 118) (.t 120) (.c (.bool false)), none, [33, 35], []⟩,
 ⟨some 122, .mov (.t 121), none, [36, 33], []⟩,
 ⟨some 123, .mov (.t 10), some (122, true), [37], []⟩,
 ⟨some 124, .bin .eql (.t 123) (.c (.int .i64 0)), some (122, true), [38, 37], []⟩,
 ⟨some 125, .pick (.t 122) (.t 124) (.c (.bool false)), none, [37, 39], []⟩,
 ⟨some 126, .mov (.t 125), none, [40, 37], []⟩,
 ⟨some 127, .mov (.t 11), some (126, true), [41], []⟩,
 ⟨some 128, .bin .eql (.t 127) (.c (.int .i64 3)), some (126, true), [42, 41], []⟩,
 ⟨some 129, .pick (.t 126) (.t 128) (.c (.bool false)), none, [41, 43], []⟩,
 ⟨some 130, .mov (.t 129), none, [44, 41], []⟩,
 ⟨some 131, .mov (.t 12), some (130, true), [45], []⟩,
 ⟨some 132, .bin .eql (.t 131) (.c (.int .i64 0)), some (130, true), [46, 45], []⟩,
 ⟨some 133, .pick (.t 130) (.t 132) (.c (.bool false)), none, [45, 47], []⟩,
 ⟨some 134, .mov (.t 133), none, [48, 45], []⟩,
 ⟨some 135, .mov (.t 13), some (134, true), [49], []⟩,
 ⟨some 136, .load 2 true (.t 20), some (134, true), [49], []⟩,
 ⟨some 137, .build [(.int .i64 0), (.int .i64 0), (.int .i64 0)] [(0, 1, (.c (.int .i64 2))), (1, 2, (.t 136))], some (134, true), [51, 49], []⟩,
 ⟨some 138, .load 2 true (.t 19), some (134, true), [49], []⟩,
 ⟨some 139, .build [(.int .i64 0), (.int .i64 0), (.int .i64 0)] [(0, 1, (.c (.int .i64 8))), (1, 2, (.t 138))], some (134, true), [53, 49], []⟩,
 ⟨some 140, .bsl 3 [(.t 137), (.t 139)], some (134, true), [52, 54, 49], []⟩,
 ⟨some 141, .call 11 [(.t 135), (.t 140)], some (134, true), [50, 55, 49, 49], []⟩,
 ⟨some 142, .pick (.t 134) (.t 141) (.c (.bool false)), none, [49, 56], []⟩,
 ⟨some 143, .mov (.t 142), none, [57, 56], []⟩,
 ⟨some 144, .mov (.t 14), some (143, true), [58], []⟩,
 ⟨some 145, .bin .eql (.t 144) (.c (.int .i64 0)), some (143, true), [59, 58], []⟩,
 ⟨some 146, .pick (.t 143) (.t 145) (.c (.bool false)), none, [58, 60], []⟩,
 ⟨some 147, .mov (.t 146), none, [61, 58], []⟩,
 ⟨some 148, .mov (.t 16), some (147, true), [62], []⟩,
 ⟨some 149, .bin .eql (.t 148) (.c (.int .i64 2)), some (147, true), [63, 62], []⟩,
 ⟨some 150, .pick (.t 147) (.t 149) (.c (.bool false)), none, [62, 64], []⟩,
 ⟨some 151, .mov (.t 150), none, [65, 62], []⟩,
 ⟨some 152, .mov (.t 18), some (151, true), [66], []⟩,
 ⟨some 153, .bin .eql (.t 152) (.c (.int .i64 2)), some (151, true), [67, 66], []⟩,
 ⟨some 154, .pick (.t 151) (.t 153) (.c (.bool false)), none, [66, 68], []⟩,
 ⟨some 0, .mov (.t 154), none, [69, 66, 0, 1, 2, 3, 4, 5, 6, 7, 8, 9, 10, 11, 12, 13, 14, 15, 16, 17, 18, 19, 20, 21, 22, 23, 24, 25, 26, 27, 28, 29, 30, 31, 32, 33, 34, 35, 36, 37, 38, 39, 40, 41, 42, 43, 44, 45, 46, 47, 48, 49, 50, 51, 52, 53, 54, 55, 56, 57, 58, 59, 60, 61, 62, 63, 64, 65, 66, 67, 68, 69], []⟩])
(.ret)))))))))))))),
[.t 0], 155⟩
theorem v_liverylaw15_head_ok : compF Tryz.prog 4 = some v_liverylaw15_head := by kernel_rfl
def v_liverylaw15_box : VFn := ⟨.seq (.reg [⟨some 8, .mov (.c (.sl [] .full)), none, [], []⟩])
(.seq (.reg [⟨some 12, .mov (.t 0), none, [], []⟩,
 ⟨some 13, .mov (.t 1), none, [], []⟩,
 ⟨some 14, .mov (.t 2), none, [], []⟩,
 ⟨some 15, .mov (.t 3), none, [], []⟩,
 ⟨some 16, .build [(.int .i64 0), (.int .i64 0)] [(0, 1, (.t 14)), (1, 1, (.t 15))], none, [2, 3], []⟩,
 ⟨some 17, .call 30 [(.t 12), (.t 13), (.t 16)], none, [0, 1, 4], []⟩,
 ⟨some 11, .mov (.t 17), none, [5], []⟩,
 ⟨some 18, .ext (.t 11) 0, none, [6], []⟩,
 ⟨some 19, .ext (.t 11) 1, none, [6], []⟩,
 ⟨some 9, .mov (.t 18), none, [7, 5, 0, 1, 2, 3, 4, 5, 6, 7], []⟩,
 ⟨some 10, .mov (.t 19), none, [8, 9, 0, 1, 2, 3, 4, 5, 6, 7, 8, 9], []⟩])
(.seq (.reg [⟨some 20, .mov (.t 9), none, [], []⟩,
 ⟨some 8, .mov (.t 20), none, [0, 0], []⟩])
(.ret))),
[.t 8], 21⟩
theorem v_liverylaw15_box_ok : compF Tryz.prog 12 = some v_liverylaw15_box := by kernel_rfl
end Go.Proofs.YtglekfgoadehbaaGreatDoor.V
end
section
/- liverylaw15: box, great, below, head. -/
namespace Go.Proofs.YtglekfgoadehbaaGreatDoor.V
open Go Go.Proofs
set_option maxRecDepth 100000
set_option maxHeartbeats 4000000
theorem box_15 (a b m c : Int) : VPure Tryz.prog 12 [.int .i64 a, .int .i64 b, .int .i64 m, .int .i64 c] (.sl ((boxF2 a b ⟨m, c⟩).1.map Seg.a) .no) := by
  refine VPure.of v_liverylaw15_box_ok (Nat.le_of_ble_eq_true rfl) (fun Z st => ?_)
  have hB := Box_2 a b m c
  obtain ⟨w, hw⟩ : ∃ w, boxF2 a b ⟨m, c⟩ = w := ⟨_, rfl⟩
  rw [hw] at hB ⊢
  clear hw
  simp only [num] at hB
  simp only [v_liverylaw15_box, ↓vD, vU, ↓vMd, vMu, vZ, seval, k_app, k_slc1]
  (repeat' (first | (simp (maxDischargeDepth := 16) only [*, vX, ↓vD, vU, ↓vMd, vMu, vZ, seval]) | (simp (disch := first | assumption | omega | rfl | exact fun _ => rfl) only [vP]) | ((with_reducible first | apply gsnd | apply csnd | apply gsd | apply csd | apply gsn | apply csn | apply gs | apply cs_) <;> intro _) | (with_reducible first | refine callH_use (hB) ?_ | refine pureQ_use (hB) ?_)))
def cH : List Seg := [⟨0, ⟨10, 10⟩⟩]
def lH : List Seg := [⟨2, ⟨3, 1⟩⟩, ⟨8, ⟨0, 0⟩⟩]
def fH : List Seg := [⟨0, ⟨10, 10⟩⟩, ⟨2, ⟨7, 9⟩⟩, ⟨8, ⟨10, 10⟩⟩]
def gH : List Seg := [⟨3, ⟨1, 3⟩⟩, ⟨8, ⟨4, 4⟩⟩]
def tH : List Seg := [⟨2, ⟨7, 9⟩⟩, ⟨8, ⟨10, 10⟩⟩]
def p0 : Pol := ⟨0, ⟨0, 0⟩, 0⟩
def p1 : Pol := ⟨1, ⟨4, 4⟩, 0⟩
def p3 : Pol := ⟨3, ⟨0, 0⟩, 0⟩
theorem h15a : boxF2 2 8 ⟨3, 1⟩ = (lH, 0) := by decide +kernel
theorem h15b : freeF cH lH lH [p0] 0 = (fH, 0) := by decide +kernel
theorem h15c : freeF cH lH lH [p1] 3 = (gH, 0) := by decide +kernel
theorem h15d : freeF cH lH lH [p3] 0 = ([], 2) := by decide +kernel
theorem h15e : fitsF fH 1 3 ⟨7, 9⟩ = (true, 0) := by decide +kernel
theorem h15f : fitsF fH 1 2 ⟨8, 1⟩ = (false, 0) := by decide +kernel
theorem h15g : mostF fH 0 9 ⟨2, 2⟩ = (3, 0) := by decide +kernel
theorem h15h : takeF fH 0 2 ⟨10, 10⟩ = (tH, 0) := by unfold takeF rangeC; rw [add_do]; decide +kernel
theorem h15i : fitsF fH 0 0 ⟨0, 0⟩ = (false, 2) := by decide +kernel
theorem head_15 : VPure Tryz.prog 4 [] (.bool true) := by
  have b1 := box_15 2 8 3 1
  have a1 := Free_v cH lH lH (by simp [cH, lH]) .full .no .no [p0] (by simp) (by simp [p0]) .full 0
  have a2 := Free_v cH lH lH (by simp [cH, lH]) .full .no .no [p1] (by simp) (by simp [p1]) .full 3
  have a3 := Fits_c fH (by simp [fH]) 1 3 ⟨7, 9⟩ .no
  have a4 := Fits_c fH (by simp [fH]) 1 2 ⟨8, 1⟩ .no
  have a5 := Most_c fH (by simp [fH]) 0 9 ⟨2, 2⟩ .no
  have a6 := Take_c fH (by simp [fH]) 0 2 ⟨10, 10⟩ .no
  have a7 := Fits_c fH (by simp [fH]) 0 0 ⟨0, 0⟩ .no
  have a8 := Free_v cH lH lH (by simp [cH, lH]) .full .no .no [p3] (by simp) (by simp [p3]) .full 0
  have s1 := Same_2 fH fH (by simp [fH]) .no .full
  have s2 := Same_2 gH gH (by simp [gH]) .no .full
  have s3 := Same_2 tH tH (by simp [tH]) .no .full
  have q1 : sameF fH fH = true := by decide
  have q2 : sameF gH gH = true := by decide
  have q3 : sameF tH tH = true := by decide
  rw [q1] at s1
  rw [q2] at s2
  rw [q3] at s3
  clear q1 q2 q3
  rw [h15a] at b1
  rw [h15b] at a1
  rw [h15c] at a2
  rw [h15e] at a3
  rw [h15f] at a4
  rw [h15g] at a5
  rw [h15h] at a6
  rw [h15i] at a7
  rw [h15d] at a8
  simp only [cH, lH, fH, gH, tH, p0, p1, p3, List.map_cons, List.map_nil, Seg.a, Vec.a, Pol.a, num] at b1 a1 a2 a3 a4 a5 a6 a7 a8 s1 s2 s3
  refine VPure.of v_liverylaw15_head_ok (Nat.le_of_ble_eq_true rfl) (fun Z st => ?_)
  simp only [v_liverylaw15_head, ↓vD, vU, ↓vMd, vMu, vZ, seval, k_app, k_slc1]
  (repeat' (first | (simp (maxDischargeDepth := 16) only [*, vX, ↓vD, vU, ↓vMd, vMu, vZ, seval]) | (simp (disch := first | assumption | omega | rfl | exact fun _ => rfl) only [vP]) | ((with_reducible first | apply gsnd | apply csnd | apply gsd | apply csd | apply gsn | apply csn | apply gs | apply cs_) <;> intro _) | (with_reducible refine objQ_i (fun _ _ => ?_); repeat with_reducible refine imp_i (fun _ => ?_)) | (with_reducible first | refine callH_use (b1) ?_ | refine pureQ_use (b1) ?_) | (with_reducible first | refine callH_use (a1) ?_ | refine pureQ_use (a1) ?_) | (with_reducible first | refine callH_use (a2) ?_ | refine pureQ_use (a2) ?_) | (with_reducible first | refine callH_use (a3) ?_ | refine pureQ_use (a3) ?_) | (with_reducible first | refine callH_use (a4) ?_ | refine pureQ_use (a4) ?_) | (with_reducible first | refine callH_use (a5) ?_ | refine pureQ_use (a5) ?_) | (with_reducible first | refine callH_use (a6) ?_ | refine pureQ_use (a6) ?_) | (with_reducible first | refine callH_use (a7) ?_ | refine pureQ_use (a7) ?_) | (with_reducible first | refine callH_use (a8) ?_ | refine pureQ_use (a8) ?_) | (with_reducible first | refine callH_use (s1) ?_ | refine pureQ_use (s1) ?_) | (with_reducible first | refine callH_use (s2) ?_ | refine pureQ_use (s2) ?_) | (with_reducible first | refine callH_use (s3) ?_ | refine pureQ_use (s3) ?_)))
end Go.Proofs.YtglekfgoadehbaaGreatDoor.V
end
section
/- Lengths. -/
namespace Go.Proofs.YtglekfgoadehbaaGreatDoor.V
open Go Go.Proofs
theorem rangeR_len (f : List Seg) (a b : Int) (v : Vec) : (rangeR f a b v).1.length ≤ f.length + 2 := by
  unfold rangeR
  split
  · split
    · have := doR_len 0 f (boxF2 a b v).1; have := boxF2_len a b v; omega
    · simp
  · simp
theorem take_len (f : List Seg) (n d : Int) (v : Vec) : (takeF f n d v).1.length ≤ f.length + 2 := by
  unfold takeF
  split
  · rw [range_do]; exact rangeR_len _ _ _ _
  · simp
end Go.Proofs.YtglekfgoadehbaaGreatDoor.V
end
section
/- FitTakes, in plain Lean. -/
namespace Go.Proofs.YtglekfgoadehbaaGreatDoor.V
open Go Go.Proofs
end Go.Proofs.YtglekfgoadehbaaGreatDoor.V
end
section
/- FitUsed and FitLess, in plain Lean. -/
namespace Go.Proofs.YtglekfgoadehbaaGreatDoor.V
open Go Go.Proofs
end Go.Proofs.YtglekfgoadehbaaGreatDoor.V
end
section
/- liverylaw15: great, below; lengths. -/
namespace Go.Proofs.YtglekfgoadehbaaGreatDoor.V
open Go Go.Proofs
set_option maxRecDepth 100000
set_option maxHeartbeats 8000000
def caseA (c l o : List Seg) (ps : List Pol) (a : Int) : AV := .agg [.sl (c.map Seg.a) .no, .sl (l.map Seg.a) .no, .sl (o.map Seg.a) .no, .sl (ps.map Pol.a) .no, .int .i64 a]
end Go.Proofs.YtglekfgoadehbaaGreatDoor.V
end
section
/- What is handed in, as V's values: structs and arrays of any parts. -/
namespace Go.Proofs.YtglekfgoadehbaaGreatDoor.V
open Go Go.ChangeShapes Go.WideShapes Go.ChangeAt Go.RowKit Go.Deep
set_option maxRecDepth 100000
def OpC (t : TypeId) (sz : Nat) (R : List AV → Prop) : Prop :=
  ∀ {H : Type} {enc : TypeId × Value → H} {w : World} {base : Nat} {spare : Nat → Bool} {held : Bool} {fuel : Nat} {cs : List Value} {x : DataW H × List MemPlace}, DataW.trod enc Tryz.prog w base spare held fuel t cs = some x →
    ∃ l : List AV, RepL (imW w) l cs ∧ l.length = sz ∧ l.all AV.isCell = true ∧ R l
theorem OpC.mono {t : TypeId} {sz : Nat} {R R' : List AV → Prop} (h : OpC t sz R) (hr : ∀ l, R l → R' l) : OpC t sz R' := fun hx => by
  obtain ⟨l, h1, h2, h3, h4⟩ := h hx
  exact ⟨l, h1, h2, h3, hr l h4⟩
theorem opn_of {α : Type} {t : TypeId} {sz : Nat} {f : α → AV} {wf : α → Prop} (h : OpC t sz (fun l => ∃ v, l = (f v).cells ∧ wf v)) : Opn t sz f wf := fun hx => by
  obtain ⟨l, h1, h2, h3, v, rfl, h4⟩ := h hx
  exact ⟨v, h1, by simp [okEl, h2, h3], h4⟩
theorem opc_of {α : Type} {t : TypeId} {sz : Nat} {f : α → AV} {wf : α → Prop} (h : Opn t sz f wf) : OpC t sz (fun l => ∃ v, l = (f v).cells ∧ wf v) := fun hx => by
  obtain ⟨v, h1, h2, h3⟩ := h hx
  simp only [okEl, Bool.and_eq_true, beq_iff_eq] at h2
  exact ⟨_, h1, h2.1, h2.2, v, rfl, h3⟩
theorem opc_int {t : TypeId} {k : IntKind} (ht : Tryz.prog.underlying t = some (.int k)) : OpC t 1 (fun l => ∃ n, l = [.int k n] ∧ (Lit.int k n).wf = true) := by
  intro H enc w base spare held fuel cs x h
  obtain ⟨a, rfl, _, wa⟩ := DataW.trod_int ht h
  exact ⟨[.int k a], by simp [RepL, Rep], rfl, rfl, a, rfl, wa⟩
def tot : List (Nat × (List AV → Prop)) → Nat
  | [] => 0
  | (n, _) :: r => n + tot r
def AllC : List (Nat × (List AV → Prop)) → List AV → Prop
  | [], l => l = []
  | (_, R) :: r, l => ∃ a b, l = a ++ b ∧ R a ∧ AllC r b
def Parts (w : World) (cs : List Value) : Nat → List (Nat × (List AV → Prop)) → Prop
  | _, [] => True
  | o, (n, R) :: r => (∃ a : List AV, RepL (imW w) a ((cs.drop o).take n) ∧ a.length = n ∧ a.all AV.isCell = true ∧ R a) ∧ Parts w cs (o + n) r
theorem glue {w : World} {cs : List Value} : ∀ {ps : List (Nat × (List AV → Prop))} {o : Nat}, Parts w cs o ps → ∃ l : List AV, RepL (imW w) l ((cs.drop o).take (tot ps)) ∧ l.length = tot ps ∧ l.all AV.isCell = true ∧ AllC ps l
  | [], o, _ => ⟨[], by simp [tot, RepL], rfl, rfl, rfl⟩
  | (n, R) :: r, o, ⟨⟨a, h1, h2, h3, h4⟩, h⟩ => by
    obtain ⟨b, k1, k2, k3, k4⟩ := glue h
    refine ⟨a ++ b, ?_, by simp [h2, k2, tot], by simp only [List.all_append, h3, k3, Bool.and_self], a, b, rfl, h4, k4⟩
    simp only [tot]
    rw [List.take_add, List.drop_drop]
    exact h1.append k1
def SeqC : List Field → Nat → List (Nat × (List AV → Prop)) → Prop
  | [], _, [] => True
  | f :: fs, o, (n, R) :: r => (f.offset = o ∧ Tryz.prog.cellsOf f.type = n ∧ OpC f.type n R) ∧ SeqC fs (o + n) r
  | _, _, _ => False
theorem opc_struct {t : TypeId} {fs : Array Field} {ps : List (Nat × (List AV → Prop))} (ht : Tryz.prog.underlying t = some (.struct fs)) (hsz : Tryz.prog.cellsOf t = tot ps) (hs : SeqC fs.toList 0 ps) : OpC t (tot ps) (AllC ps) := by
  intro H enc w base spare held fuel cs x h
  obtain ⟨xs, n, _, rfl, hl, hlen, hf⟩ := DataW.trod_struct ht h
  have key : ∀ (fl : List Field) (o : Nat) (ps : List (Nat × (List AV → Prop))), (∀ f ∈ fl, ∃ y, DataW.trod enc Tryz.prog w base spare held n f.type ((cs.drop f.offset).take (Tryz.prog.cellsOf f.type)) = some y) → SeqC fl o ps → Parts w cs o ps := by
    intro fl
    induction fl with
    | nil =>
      intro o ps _ hs
      cases ps with
      | nil => trivial
      | cons p r => exact hs.elim
    | cons f fl ih =>
      intro o ps hy hs
      match ps, hs with
      | (m, R) :: r, ⟨⟨e1, e2, h3⟩, h4⟩ =>
        obtain ⟨y, hy1⟩ := hy f (by simp)
        rw [e1, e2] at hy1
        exact ⟨h3 hy1, ih _ _ (fun g hg => hy g (by simp [hg])) h4⟩
  have hp := key fs.toList 0 ps (fun f hfm => by
    obtain ⟨i, hi, rfl⟩ := List.getElem_of_mem hfm
    have hi2 : i < fs.size := by simpa using hi
    have := hf i fs[i] (by simp [hi2])
    rw [List.getElem?_eq_getElem (by omega)] at this
    exact ⟨_, by simpa using this⟩) hs
  obtain ⟨l, k1, k2, k3, k4⟩ := glue hp
  refine ⟨l, ?_, k2, k3, k4⟩
  rw [List.drop_zero, List.take_of_length_le (by omega)] at k1
  exact k1
theorem open_agg {α : Type} {t : TypeId} {sz : Nat} {g : α → List AV} {wf : α → Prop} {fs : Array Field} (ht : Tryz.prog.underlying t = some (.struct fs)) (hO : Opn t sz (fun x => .agg (g x)) wf)
    {H : Type} {enc : TypeId × Value → H} {w : World} {base base' : Nat} {spare : Nat → Bool} {held : Bool} {v : Value} {d : DataW H} {ps : List MemPlace} {r : Reach} (hval : Value.okWide Tryz.prog w r base' t v) (h : DataW.Trod enc Tryz.prog w base spare held t v d ps) :
    ∃ x : α, Rep (imW w) (.agg (g x)) v ∧ wf x := by
  simp only [Value.okWide, ht] at hval
  obtain ⟨cs, rfl, hsz, _⟩ := hval
  obtain ⟨fuel, hf⟩ := h
  obtain ⟨x, h1, _, h3⟩ := hO hf
  exact ⟨x, by simp only [Rep]; exact ⟨cs, rfl, h1⟩, h3⟩
/-! The structs of times and resources. -/
end Go.Proofs.YtglekfgoadehbaaGreatDoor.V
end
section
/- What the laws of fit are handed. -/
namespace Go.Proofs.YtglekfgoadehbaaGreatDoor.V
open Go Go.ChangeShapes Go.WideShapes Go.ChangeAt Go.RowKit Go.Deep
set_option maxRecDepth 100000
structure Ask15 where
  n : Int
  d : Int
  v : Vec
def Ask15.a (x : Ask15) : AV := .agg [.int .i64 x.n, .int .i64 x.d, .int .i64 x.v.m, .int .i64 x.v.c]
theorem opn_Ask15 : Opn 26 4 Ask15.a (fun _ => True) :=
  opn_of (OpC.mono (opc_struct (ps := [(1, _), (1, _), (2, _)]) Tryz.underlying26 (by kernel_rfl) ⟨⟨rfl, by kernel_rfl, opc_int (k := .i64) (by kernel_rfl)⟩, ⟨rfl, by kernel_rfl, opc_int (k := .i64) (by kernel_rfl)⟩, ⟨rfl, by kernel_rfl, opc_of opn_vec⟩, trivial⟩) (by
    rintro l ⟨_, _, rfl, ⟨a, rfl, ha⟩, _, _, rfl, ⟨n, rfl, hn⟩, _, _, rfl, ⟨v, rfl, hv⟩, rfl⟩
    exact ⟨⟨a, n, v⟩, rfl, trivial⟩))
theorem open_Ask15 {H : Type} {enc : TypeId × Value → H} {w : World} {base base' : Nat} {spare : Nat → Bool} {held : Bool} {v : Value} {d : DataW H} {ps : List MemPlace} {r : Reach} (hval : Value.okWide Tryz.prog w r base' 26 v) (h : DataW.Trod enc Tryz.prog w base spare held 26 v d ps) :
    ∃ x : Ask15, Rep (imW w) x.a v ∧ True := open_agg (g := fun x : Ask15 => [.int .i64 x.n, .int .i64 x.d, .int .i64 x.v.m, .int .i64 x.v.c]) Tryz.underlying26 opn_Ask15 hval h
structure Case15 where
  c : List Seg
  l : List Seg
  o : List Seg
  ps : List Pol
  n : Int
def Case15.a (x : Case15) : AV := caseA x.c x.l x.o x.ps x.n
end Go.Proofs.YtglekfgoadehbaaGreatDoor.V
end
section
/- The compiled functions of the package liveryref15 (printed by Print.lean of this work). -/
namespace Go.Proofs.YtglekfgoadehbaaGreatDoor.V
open Go Go.Proofs
def v_liveryref15_Fits : VFn := ⟨.seq (.reg [⟨some 7, .box (.t 3), none, [], []⟩,
 ⟨some 8, .mov (.c (.bool false)), none, [], []⟩,
 ⟨some 9, .mov (.c (.int .i64 0)), none, [1], []⟩])
(.seq (.reg [⟨some 11, .mov (.t 0), none, [], []⟩,
 ⟨some 12, .mov (.t 1), none, [], []⟩,
 ⟨some 13, .mov (.t 2), none, [], []⟩,
 ⟨some 14, .load 2 true (.t 7), none, [], []⟩,
 ⟨some 15, .call 18 [(.t 11), (.t 12), (.t 13), (.t 14)], none, [0, 1, 2, 3], []⟩,
 ⟨some 10, .mov (.t 15), none, [4, 4, 0, 1, 2, 3, 4], []⟩])
(.seq (.reg [⟨some 16, .mov (.t 10), none, [], []⟩,
 ⟨some 17, .bin .eql (.t 16) (.c (.int .i64 0)), none, [0], []⟩,
 ⟨some 18, .mov (.t 17), none, [1], []⟩,
 ⟨some 19, .mov (.t 0), some (18, true), [2], []⟩,
 ⟨some 20, .mov (.t 1), some (18, true), [2], []⟩,
 ⟨some 21, .mov (.t 2), some (18, true), [2], []⟩,
 ⟨some 22, .load 2 true (.t 7), some (18, true), [2], []⟩,
 ⟨some 23, .call 19 [(.t 19), (.t 20), (.t 21), (.t 22)], some (18, true), [3, 4, 5, 6, 2, 2], []⟩,
 ⟨some 24, .pick (.t 18) (.t 23) (.c (.bool false)), none, [2, 7], []⟩,
 ⟨some 25, .mov (.t 10), none, [], []⟩,
 ⟨some 8, .mov (.t 24), none, [8, 7, 0, 1, 2, 3, 4, 5, 6, 7, 8], []⟩,
 ⟨some 9, .mov (.t 25), none, [9, 10, 0, 1, 2, 3, 4, 5, 6, 7, 8, 9, 10], []⟩])
(.ret))),
[.t 8, .t 9], 26⟩
theorem v_liveryref15_Fits_ok : compF Tryz.prog 6 = some v_liveryref15_Fits := by kernel_rfl
def v_liveryref15_Take : VFn := ⟨.seq (.reg [⟨some 7, .box (.t 3), none, [], []⟩,
 ⟨some 8, .mov (.c (.sl [] .full)), none, [], []⟩,
 ⟨some 9, .mov (.c (.int .i64 0)), none, [1], []⟩])
(.seq (.reg [⟨some 11, .mov (.t 0), none, [], []⟩,
 ⟨some 12, .mov (.t 1), none, [], []⟩,
 ⟨some 13, .mov (.t 2), none, [], []⟩,
 ⟨some 14, .load 2 true (.t 7), none, [], []⟩,
 ⟨some 15, .call 18 [(.t 11), (.t 12), (.t 13), (.t 14)], none, [0, 1, 2, 3], []⟩,
 ⟨some 10, .mov (.t 15), none, [4, 4, 0, 1, 2, 3, 4], []⟩])
(.seq (.seq (.reg [⟨some 16, .mov (.t 10), none, [], []⟩,
 ⟨some 17, .bin .neq (.t 16) (.c (.int .i64 0)), none, [0], []⟩])
(.cond (.t 17)
 (.seq (.reg [⟨some 18, .mov (.t 10), none, [], []⟩,
 ⟨some 8, .mov (.c (.sl [] .full)), none, [], []⟩,
 ⟨some 9, .mov (.t 18), none, [0, 1, 0, 1], []⟩])
 (.ret))
 (.skip)))
(.seq (.reg [⟨some 19, .mov (.t 0), none, [], []⟩,
 ⟨some 20, .mov (.t 1), none, [], []⟩,
 ⟨some 21, .mov (.t 1), none, [], []⟩,
 ⟨some 22, .mov (.t 2), none, [], []⟩,
 ⟨some 23, .bin .add (.t 21) (.t 22), none, [2, 3], []⟩,
 ⟨some 24, .fad 0 (.t 7), none, [], []⟩,
 ⟨some 25, .load 1 false (.t 24), none, [5], []⟩,
 ⟨some 26, .un .neg (.t 25), none, [6], []⟩,
 ⟨some 27, .fad 1 (.t 7), none, [], []⟩,
 ⟨some 28, .load 1 false (.t 27), none, [8], []⟩,
 ⟨some 29, .un .neg (.t 28), none, [9], []⟩,
 ⟨some 30, .build [(.int .i64 0), (.int .i64 0)] [(0, 1, (.t 26)), (1, 1, (.t 29))], none, [7, 10], []⟩,
 ⟨some 31, .call 22 [(.t 19), (.t 20), (.t 23), (.t 30)], none, [0, 1, 4, 11], []⟩,
 ⟨some 32, .ext (.t 31) 0, none, [12], []⟩,
 ⟨some 33, .ext (.t 31) 1, none, [12], []⟩,
 ⟨some 8, .mov (.t 32), none, [13, 12, 0, 1, 2, 3, 4, 5, 6, 7, 8, 9, 10, 11, 12, 13, 14], []⟩,
 ⟨some 9, .mov (.t 33), none, [14, 15, 0, 1, 2, 3, 4, 5, 6, 7, 8, 9, 10, 11, 12, 13, 14, 15], []⟩])
(.ret)))),
[.t 8, .t 9], 34⟩
theorem v_liveryref15_Take_ok : compF Tryz.prog 8 = some v_liveryref15_Take := by kernel_rfl
def v_liveryref15_Units : VFn := ⟨.seq (.reg [⟨some 7, .box (.t 3), none, [], []⟩,
 ⟨some 8, .mov (.c (.int .i64 0)), none, [], []⟩,
 ⟨some 9, .mov (.c (.int .i64 0)), none, [1], []⟩])
(.seq (.seq (.reg [⟨some 16, .mov (.t 0), none, [], []⟩,
 ⟨some 17, .call 26 [(.t 16)], none, [0], []⟩,
 ⟨some 18, .mov (.t 17), none, [1, 1], []⟩,
 ⟨some 19, .fad 0 (.t 7), some (18, true), [2], []⟩,
 ⟨some 20, .load 1 false (.t 19), some (18, true), [3, 2], []⟩,
 ⟨some 21, .bin .lss (.t 20) (.c (.int .i64 1)), some (18, true), [4, 2], []⟩,
 ⟨some 22, .mov (.t 21), some (18, true), [5, 2, 2], []⟩,
 ⟨some 23, .fad 1 (.t 7), some (22, false), [6], []⟩,
 ⟨some 24, .load 1 false (.t 23), some (22, false), [7, 6], []⟩,
 ⟨some 25, .bin .lss (.t 24) (.c (.int .i64 1)), some (22, false), [8, 6], []⟩,
 ⟨some 26, .pick (.t 22) (.c (.bool true)) (.t 25), some (18, true), [6, 9, 2], []⟩,
 ⟨some 27, .pick (.t 18) (.t 26) (.c (.bool false)), none, [2, 10], []⟩])
(.cond (.t 27)
 (.seq (.reg [⟨some 8, .mov (.c (.int .i64 0)), none, [], []⟩,
 ⟨some 9, .mov (.c (.int .i64 2)), none, [0, 0], []⟩])
 (.ret))
 (.skip)))
(.seq (.reg [⟨some 28, .mov (.t 0), none, [], []⟩,
 ⟨some 29, .mov (.t 1), none, [], []⟩,
 ⟨some 30, .mov (.t 2), none, [], []⟩,
 ⟨some 31, .load 2 true (.t 7), none, [], []⟩,
 ⟨some 32, .call 18 [(.t 28), (.t 29), (.t 30), (.t 31)], none, [0, 1, 2, 3], []⟩,
 ⟨some 10, .mov (.t 32), none, [4, 4, 0, 1, 2, 3, 4], []⟩])
(.seq (.seq (.reg [⟨some 33, .mov (.t 10), none, [], []⟩,
 ⟨some 34, .bin .neq (.t 33) (.c (.int .i64 0)), none, [0], []⟩])
(.cond (.t 34)
 (.seq (.reg [⟨some 35, .mov (.t 10), none, [], []⟩,
 ⟨some 8, .mov (.c (.int .i64 0)), none, [], []⟩,
 ⟨some 9, .mov (.t 35), none, [0, 1, 0, 1], []⟩])
 (.ret))
 (.skip)))
(.seq (.reg [⟨some 36, .mov (.t 1), none, [], []⟩,
 ⟨some 37, .bsl 1 [(.t 36)], none, [0], []⟩,
 ⟨some 38, .mov (.t 0), none, [], []⟩,
 ⟨some 39, .call 27 [(.t 38)], none, [2], []⟩,
 ⟨some 40, .app 1 8 (.t 37) (.t 39), none, [1, 3, 3], []⟩,
 ⟨some 11, .mov (.t 40), none, [4, 4, 0, 1, 2, 3, 4], []⟩])
(.seq (.reg [⟨some 12, .mov (.c (.int .i64 (-1))), none, [], []⟩])
(.seq (.seq (.reg [⟨some 13, .mov (.c (.int .i64 0)), none, [], []⟩])
(.block 0
 (.loop
 (.seq (.seq (.reg [⟨some 41, .mov (.t 13), none, [], []⟩,
 ⟨some 42, .mov (.t 11), none, [], []⟩,
 ⟨some 43, .len (.t 42), none, [1], []⟩,
 ⟨some 44, .bin .lss (.t 41) (.t 43), none, [0, 2], []⟩])
 (.cond (.t 44)
 (.skip)
 (.exit 0)))
 (.seq (.block 1
 (.seq (.seq (.reg [⟨some 47, .mov (.t 11), none, [], []⟩,
 ⟨some 48, .mov (.t 13), none, [], []⟩,
 ⟨some 49, .iad 1 (.t 47) (.t 48), none, [0, 1], []⟩,
 ⟨some 50, .load 1 false (.t 49), none, [2], []⟩,
 ⟨some 51, .mov (.t 1), none, [], []⟩,
 ⟨some 52, .bin .lss (.t 50) (.t 51), none, [3, 4], []⟩,
 ⟨some 53, .mov (.t 52), none, [5], []⟩,
 ⟨some 54, .mov (.t 11), some (53, false), [6], []⟩,
 ⟨some 55, .mov (.t 13), some (53, false), [6], []⟩,
 ⟨some 56, .iad 1 (.t 54) (.t 55), some (53, false), [7, 8, 6], []⟩,
 ⟨some 57, .load 1 false (.t 56), some (53, false), [9, 6], []⟩,
 ⟨some 58, .mov (.t 1), some (53, false), [6], []⟩,
 ⟨some 59, .mov (.t 2), some (53, false), [6], []⟩,
 ⟨some 60, .bin .add (.t 58) (.t 59), some (53, false), [11, 12, 6], []⟩,
 ⟨some 61, .bin .geq (.t 57) (.t 60), some (53, false), [10, 13, 6], []⟩,
 ⟨some 62, .pick (.t 53) (.c (.bool true)) (.t 61), none, [6, 14], []⟩])
 (.cond (.t 62)
 (.exit 1)
 (.skip)))
 (.seq (.dreg [⟨some 64, .mov (.t 0), none, [], []⟩,
 ⟨some 65, .mov (.t 11), none, [], []⟩,
 ⟨some 66, .mov (.t 13), none, [], []⟩,
 ⟨some 67, .iad 1 (.t 65) (.t 66), none, [1, 2], []⟩,
 ⟨some 68, .load 1 false (.t 67), none, [3], []⟩,
 ⟨some 69, .call 29 [(.t 64), (.t 68)], none, [0, 4], []⟩,
 ⟨some 70, .load 2 true (.t 7), none, [], []⟩,
 ⟨some 71, .call 28 [(.t 69), (.t 70)], none, [5, 6, 5], [(0, 0)]⟩,
 ⟨some 63, .mov (.t 71), none, [7], []⟩,
 ⟨some 72, .ext (.t 63) 0, none, [8], []⟩,
 ⟨some 73, .ext (.t 63) 1, none, [8], []⟩,
 ⟨some 14, .mov (.t 72), none, [9, 7, 0, 1, 2, 3, 4, 5, 6, 7, 8, 9], []⟩,
 ⟨some 15, .mov (.t 73), none, [10, 11, 0, 1, 2, 3, 4, 5, 6, 7, 8, 9, 10, 11], []⟩])
 (.seq (.reg [⟨some 74, .mov (.t 12), none, [], []⟩,
 ⟨some 75, .bin .lss (.t 74) (.c (.int .i64 0)), none, [0], []⟩,
 ⟨some 76, .mov (.t 75), none, [1], []⟩,
 ⟨some 77, .mov (.t 14), some (76, false), [2], []⟩,
 ⟨some 78, .mov (.t 12), some (76, false), [2], []⟩,
 ⟨some 79, .bin .lss (.t 77) (.t 78), some (76, false), [3, 4, 2], []⟩,
 ⟨some 80, .pick (.t 76) (.c (.bool true)) (.t 79), none, [2, 5], []⟩])
 (.cond (.t 80)
 (.reg [⟨some 81, .mov (.t 14), none, [], []⟩,
 ⟨some 12, .mov (.t 81), none, [0, 0], []⟩])
 (.skip))))))
 (.reg [⟨some 45, .mov (.t 13), none, [], []⟩,
 ⟨some 46, .bin .add (.t 45) (.c (.int .i64 1)), none, [0], []⟩,
 ⟨some 13, .mov (.t 46), none, [1, 0, 1], []⟩]))))))
(.seq (.reg [⟨some 82, .mov (.t 12), none, [], []⟩,
 ⟨some 8, .mov (.t 82), none, [0, 0], []⟩,
 ⟨some 9, .mov (.c (.int .i64 0)), none, [1, 0, 1], []⟩])
(.ret)))))))),
[.t 8, .t 9], 83⟩
theorem v_liveryref15_Units_ok : compF Tryz.prog 10 = some v_liveryref15_Units := by kernel_rfl
def v_liveryref15_bad : VFn := ⟨.seq (.reg [⟨some 7, .box (.t 3), none, [], []⟩,
 ⟨some 8, .mov (.c (.int .i64 0)), none, [], []⟩])
(.seq (.seq (.reg [⟨some 9, .mov (.t 0), none, [], []⟩,
 ⟨some 10, .call 26 [(.t 9)], none, [0], []⟩,
 ⟨some 11, .un .not (.t 10), none, [1], []⟩])
(.cond (.t 11)
 (.seq (.reg [⟨some 8, .mov (.c (.int .i64 5)), none, [], []⟩])
 (.ret))
 (.skip)))
(.seq (.seq (.reg [⟨some 12, .mov (.t 2), none, [], []⟩,
 ⟨some 13, .bin .lss (.t 12) (.c (.int .i64 1)), none, [0], []⟩,
 ⟨some 14, .mov (.t 13), none, [1], []⟩,
 ⟨some 15, .mov (.t 2), some (14, false), [2], []⟩,
 ⟨some 16, .bin .gtr (.t 15) (.c (.int .i64 4096)), some (14, false), [3, 2], []⟩,
 ⟨some 17, .pick (.t 14) (.c (.bool true)) (.t 16), none, [2, 4], []⟩])
(.cond (.t 17)
 (.seq (.reg [⟨some 8, .mov (.c (.int .i64 2)), none, [], []⟩])
 (.ret))
 (.skip)))
(.seq (.seq (.reg [⟨some 18, .mov (.t 1), none, [], []⟩,
 ⟨some 19, .bin .lss (.t 18) (.c (.int .i64 (-1099511627776))), none, [0], []⟩,
 ⟨some 20, .mov (.t 19), none, [1], []⟩,
 ⟨some 21, .mov (.t 1), some (20, false), [2], []⟩,
 ⟨some 22, .bin .gtr (.t 21) (.c (.int .i64 1099511627776)), some (20, false), [3, 2], []⟩,
 ⟨some 23, .pick (.t 20) (.c (.bool true)) (.t 22), none, [2, 4], []⟩,
 ⟨some 24, .mov (.t 23), none, [5, 2], []⟩,
 ⟨some 25, .load 2 true (.t 7), some (24, false), [6], []⟩,
 ⟨some 26, .call 40 [(.t 25)], some (24, false), [7, 6, 6], []⟩,
 ⟨some 27, .un .not (.t 26), some (24, false), [8, 6], []⟩,
 ⟨some 28, .pick (.t 24) (.c (.bool true)) (.t 27), none, [6, 9], []⟩])
(.cond (.t 28)
 (.seq (.reg [⟨some 8, .mov (.c (.int .i64 10)), none, [], []⟩])
 (.ret))
 (.skip)))
(.seq (.reg [⟨some 8, .mov (.c (.int .i64 0)), none, [], []⟩])
(.ret))))),
[.t 8], 29⟩
theorem v_liveryref15_bad_ok : compF Tryz.prog 18 = some v_liveryref15_bad := by kernel_rfl
def v_liveryref15_Into : VFn := ⟨.seq (.reg [⟨some 7, .box (.t 3), none, [], []⟩,
 ⟨some 8, .mov (.c (.bool false)), none, [], []⟩])
(.seq (.reg [⟨some 11, .mov (.t 1), none, [], []⟩,
 ⟨some 12, .bsl 1 [(.t 11)], none, [0], []⟩,
 ⟨some 13, .mov (.t 0), none, [], []⟩,
 ⟨some 14, .call 27 [(.t 13)], none, [2], []⟩,
 ⟨some 15, .app 1 8 (.t 12) (.t 14), none, [1, 3, 3], []⟩,
 ⟨some 9, .mov (.t 15), none, [4, 4, 0, 1, 2, 3, 4], []⟩])
(.seq (.seq (.reg [⟨some 10, .mov (.c (.int .i64 0)), none, [], []⟩])
(.block 0
 (.loop
 (.seq (.seq (.reg [⟨some 16, .mov (.t 10), none, [], []⟩,
 ⟨some 17, .mov (.t 9), none, [], []⟩,
 ⟨some 18, .len (.t 17), none, [1], []⟩,
 ⟨some 19, .bin .lss (.t 16) (.t 18), none, [0, 2], []⟩])
 (.cond (.t 19)
 (.skip)
 (.exit 0)))
 (.seq (.block 1
 (.seq (.dreg [⟨some 22, .mov (.t 9), none, [], []⟩,
 ⟨some 23, .mov (.t 10), none, [], []⟩,
 ⟨some 24, .iad 1 (.t 22) (.t 23), none, [0, 1], []⟩,
 ⟨some 25, .load 1 false (.t 24), none, [2], []⟩,
 ⟨some 26, .mov (.t 1), none, [], []⟩,
 ⟨some 27, .bin .geq (.t 25) (.t 26), none, [3, 4], []⟩,
 ⟨some 28, .mov (.t 27), none, [5], []⟩,
 ⟨some 29, .mov (.t 9), some (28, true), [6], []⟩,
 ⟨some 30, .mov (.t 10), some (28, true), [6], []⟩,
 ⟨some 31, .iad 1 (.t 29) (.t 30), some (28, true), [7, 8, 6], []⟩,
 ⟨some 32, .load 1 false (.t 31), some (28, true), [9, 6], []⟩,
 ⟨some 33, .mov (.t 1), some (28, true), [6], []⟩,
 ⟨some 34, .mov (.t 2), some (28, true), [6], []⟩,
 ⟨some 35, .bin .add (.t 33) (.t 34), some (28, true), [11, 12, 6], []⟩,
 ⟨some 36, .bin .lss (.t 32) (.t 35), some (28, true), [10, 13, 6], []⟩,
 ⟨some 37, .pick (.t 28) (.t 36) (.c (.bool false)), none, [6, 14], []⟩,
 ⟨some 38, .mov (.t 37), none, [15, 6], []⟩,
 ⟨some 39, .load 2 true (.t 7), some (38, true), [16], []⟩,
 ⟨some 40, .mov (.t 0), some (38, true), [16], []⟩,
 ⟨some 41, .mov (.t 9), some (38, true), [16], []⟩,
 ⟨some 42, .mov (.t 10), some (38, true), [16], []⟩,
 ⟨some 43, .iad 1 (.t 41) (.t 42), some (38, true), [19, 20, 16], []⟩,
 ⟨some 44, .load 1 false (.t 43), some (38, true), [21, 16], []⟩,
 ⟨some 45, .call 29 [(.t 40), (.t 44)], some (38, true), [18, 22, 16, 16], []⟩,
 ⟨some 46, .call 41 [(.t 39), (.t 45)], some (38, true), [17, 23, 23, 16], [(0, 0)]⟩,
 ⟨some 47, .un .not (.t 46), some (38, true), [24, 16], []⟩,
 ⟨some 48, .pick (.t 38) (.t 47) (.c (.bool false)), none, [16, 25], []⟩])
 (.cond (.t 48)
 (.seq (.reg [⟨some 8, .mov (.c (.bool false)), none, [], []⟩])
 (.ret))
 (.skip))))
 (.reg [⟨some 20, .mov (.t 10), none, [], []⟩,
 ⟨some 21, .bin .add (.t 20) (.c (.int .i64 1)), none, [0], []⟩,
 ⟨some 10, .mov (.t 21), none, [1, 0, 1], []⟩]))))))
(.seq (.reg [⟨some 8, .mov (.c (.bool true)), none, [], []⟩])
(.ret)))),
[.t 8], 49⟩
theorem v_liveryref15_Into_ok : compF Tryz.prog 19 = some v_liveryref15_Into := by kernel_rfl
end Go.Proofs.YtglekfgoadehbaaGreatDoor.V
end
section
/- liveryref15.Into. -/
namespace Go.Proofs.YtglekfgoadehbaaGreatDoor.V
open Go Go.Proofs
set_option maxRecDepth 100000
set_option maxHeartbeats 4000000
def intoP (f : List Seg) (t d : Int) (v : Vec) (s : Int) : Bool := !((decide (t ≤ s) && decide (s < t + d)) && !leW v (atF f s))
theorem Into_15 (f : List Seg) (hf : f.length ≤ 1000000) (tk : Tok) (t d : Int) (v : Vec) (hw : IntKind.i64.wrap (t + d) = t + d) : VPure Tryz.prog 19 [.sl (f.map Seg.a) tk, .int .i64 t, .int .i64 d, .agg [.int .i64 v.m, .int .i64 v.c]] (.bool (intoF f t d v)) := by
  refine VPure.of v_liveryref15_Into_ok (Nat.le_of_ble_eq_true rfl) (fun Z st => ?_)
  have hW := (When_2 f (by omega) tk).pure
  have HI : Hid (intoF f t d v = (t :: f.map (·.t)).all (intoP f t d v)) := ⟨rfl⟩
  obtain ⟨ts, hts⟩ : ∃ ts, t :: f.map (·.t) = ts := ⟨_, rfl⟩
  have hE : AV.int .i64 t :: f.map (fun x => num x.t) = ts.map num := by rw [← hts, List.map_cons, List.map_map]; rfl
  have hl : ts.length ≤ 1000001 := by rw [← hts]; simp; omega
  rw [hts] at HI
  obtain ⟨b, hb⟩ : ∃ b, intoF f t d v = b := ⟨_, rfl⟩
  rw [hb] at HI ⊢
  have hA := Hid.mk fun s => At_2 f (by omega) tk s
  clear hts hb
  simp only [v_liveryref15_Into, ↓vD, vU, ↓vMd, vMu, vZ, seval, k_app, k_slc1]
  (repeat' (first | (simp (maxDischargeDepth := 16) only [*, vX, ↓vD, vU, ↓vMd, vMu, vZ, seval]) | (simp (disch := first | assumption | omega | rfl | exact fun _ => rfl) only [vP]) | ((with_reducible first | apply gsnd | apply csnd | apply gsd | apply csd | apply gsn | apply csn | apply gs | apply cs_) <;> intro _) | (with_reducible refine objQ_i (fun _ _ => ?_); repeat with_reducible refine imp_i (fun _ => ?_)) | ((try with_reducible refine appK_a ?_); first | (with_reducible refine appD_F (by refine ⟨?_, ?_, ?_, ?_⟩ <;> (first | assumption | omega | exact St.has_add (by assumption) | (simp only [ins_has]; exact St.has_add (by assumption)) | (simp only [ins_has, fresh_ins, kill_ins, add_ins] at *; exact St.has_add (by assumption)) | (simp only [*, ins_has, has_full, St.has_add]; done) | (simp [-List.map_take, -List.map_drop, or_imp, forall_and, Seg.a, Vec.a, Leg.a, num, okEl, cells_agg, cells_int, cells_sl, cells_bool, AV.isCell]; done) | (simp; omega))) (fun _ _ => ?_)) | (with_reducible refine appD_V (by refine ⟨?_, ?_, ?_, ?_, ?_⟩ <;> (first | assumption | omega | exact St.has_add (by assumption) | (simp only [ins_has]; exact St.has_add (by assumption)) | (simp only [ins_has, fresh_ins, kill_ins, add_ins] at *; exact St.has_add (by assumption)) | (simp only [*, ins_has, has_full, St.has_add]; done) | (simp [-List.map_take, -List.map_drop, or_imp, forall_and, Seg.a, Vec.a, Leg.a, num, okEl, cells_agg, cells_int, cells_sl, cells_bool, AV.isCell]; done) | (simp; omega))) (fun _ _ => ?_))) | (with_reducible refine freshQ_i (fun _ _ => ?_)) | (with_reducible first | refine callH_use (hW) ?_ | refine pureQ_use (hW) ?_)))
  refine loopp_of (len := ts.length) (by simp only [asgL, dsts, List.cons_append, List.nil_append, List.append_nil]; rfl) (by simp only [noR, Bool.and_true, Bool.and_false]; rfl) (by omega) (fun k fr => fr.t 10 = .int .i64 k ∧ Hid ((ts.take k).all (intoP f t d v) = true)) ?_ ?_ ?_
  · exact ⟨by simp [↓vD, vU, ↓vMd, vMu, vZ, seval, k_app, k_slc1], ⟨rfl⟩⟩
  · rintro k fr hk hwk hfr hd ⟨h10, HK⟩
    obtain ⟨s, hs⟩ : ∃ s, ts[k] = s := ⟨_, rfl⟩
    have hnx : (ts.take (k + 1)).all (intoP f t d v) = intoP f t d v s := by
      rw [List.take_add_one, List.getElem?_eq_getElem hk, hs, List.all_append, HK.out]; simp
    have hno : intoP f t d v s = false → b = false := fun h => by
      rw [HI.out, List.all_eq_false]
      exact ⟨s, by rw [← hs]; exact List.getElem_mem _, by rw [h]; simp⟩
    rw [hnx]
    have hAt := hA.out s
    have hL := LE_1 v.m v.c (atF f s).m (atF f s).c
    have HP : Hid (intoP f t d v s = !((decide (t ≤ s) && decide (s < t + d)) && !(decide (v.m ≤ (atF f s).m) && decide (v.c ≤ (atF f s).c)))) := ⟨rfl⟩
    obtain ⟨c, hc⟩ : ∃ c, (decide (v.m ≤ (atF f s).m) && decide (v.c ≤ (atF f s).c)) = c := ⟨_, rfl⟩
    rw [hc] at hL HP
    obtain ⟨p, hp⟩ : ∃ p, intoP f t d v s = p := ⟨_, rfl⟩
    rw [hp] at HP hno ⊢
    have HN := Hid.mk hno
    clear hnx hno hc hp HK HI
    by_cases q1 : t ≤ s
    · by_cases q2 : s < t + d
      · cases c
        · obtain rfl : p = false := by rw [HP.out]; simp [q1, q2]
          obtain rfl : b = false := HN.out rfl
          clear HP HN
          (repeat' (first | (simp (maxDischargeDepth := 16) only [*, num, vX, ↓vD, vU, ↓vMd, vMu, vZ, seval]) | (simp (disch := first | assumption | omega | rfl | exact fun _ => rfl) only [num, vP]) | ((with_reducible first | apply gsnd | apply csnd | apply gsd | apply csd | apply gsn | apply csn | apply gs | apply cs_) <;> intro _) | (with_reducible refine objQ_i (fun _ _ => ?_); repeat with_reducible refine imp_i (fun _ => ?_)) | ((try with_reducible refine appK_a ?_); first | (with_reducible refine appD_F (by refine ⟨?_, ?_, ?_, ?_⟩ <;> (first | assumption | omega | exact St.has_add (by assumption) | (simp only [ins_has]; exact St.has_add (by assumption)) | (simp only [ins_has, fresh_ins, kill_ins, add_ins] at *; exact St.has_add (by assumption)) | (simp only [*, ins_has, has_full, St.has_add]; done) | (simp [-List.map_take, -List.map_drop, or_imp, forall_and, Seg.a, Vec.a, Leg.a, num, okEl, cells_agg, cells_int, cells_sl, cells_bool, AV.isCell]; done) | (simp; omega))) (fun _ _ => ?_)) | (with_reducible refine appD_V (by refine ⟨?_, ?_, ?_, ?_, ?_⟩ <;> (first | assumption | omega | exact St.has_add (by assumption) | (simp only [ins_has]; exact St.has_add (by assumption)) | (simp only [ins_has, fresh_ins, kill_ins, add_ins] at *; exact St.has_add (by assumption)) | (simp only [*, ins_has, has_full, St.has_add]; done) | (simp [-List.map_take, -List.map_drop, or_imp, forall_and, Seg.a, Vec.a, Leg.a, num, okEl, cells_agg, cells_int, cells_sl, cells_bool, AV.isCell]; done) | (simp; omega))) (fun _ _ => ?_))) | (with_reducible refine freshQ_i (fun _ _ => ?_)) | (with_reducible first | refine callH_use (hAt) ?_ | refine pureQ_use (hAt) ?_) | (with_reducible first | refine callH_use (hL) ?_ | refine pureQ_use (hL) ?_)))
          ((try clear hfr); (try clear hfr2); (try clear hfr3); (try clear hf); (try clear hf2); (try clear hd); (try clear hd2); (try clear hd3); (try simp only [fresh_ins, kill_ins, add_ins] at *); (repeat' (first | exact St.le.refl _ | (with_reducible refine le_ins_new ?_ _ (by assumption)) | (with_reducible refine St.le.trans ?_ (add_kill_le (by assumption))) | (with_reducible refine le_add_t _ ?_))))
        · obtain rfl : p = true := by rw [HP.out]; simp
          clear HP HN
          (repeat' (first | (simp (maxDischargeDepth := 16) only [*, num, vX, ↓vD, vU, ↓vMd, vMu, vZ, seval]) | (simp (disch := first | assumption | omega | rfl | exact fun _ => rfl) only [num, vP]) | ((with_reducible first | apply gsnd | apply csnd | apply gsd | apply csd | apply gsn | apply csn | apply gs | apply cs_) <;> intro _) | (with_reducible refine objQ_i (fun _ _ => ?_); repeat with_reducible refine imp_i (fun _ => ?_)) | ((try with_reducible refine appK_a ?_); first | (with_reducible refine appD_F (by refine ⟨?_, ?_, ?_, ?_⟩ <;> (first | assumption | omega | exact St.has_add (by assumption) | (simp only [ins_has]; exact St.has_add (by assumption)) | (simp only [ins_has, fresh_ins, kill_ins, add_ins] at *; exact St.has_add (by assumption)) | (simp only [*, ins_has, has_full, St.has_add]; done) | (simp [-List.map_take, -List.map_drop, or_imp, forall_and, Seg.a, Vec.a, Leg.a, num, okEl, cells_agg, cells_int, cells_sl, cells_bool, AV.isCell]; done) | (simp; omega))) (fun _ _ => ?_)) | (with_reducible refine appD_V (by refine ⟨?_, ?_, ?_, ?_, ?_⟩ <;> (first | assumption | omega | exact St.has_add (by assumption) | (simp only [ins_has]; exact St.has_add (by assumption)) | (simp only [ins_has, fresh_ins, kill_ins, add_ins] at *; exact St.has_add (by assumption)) | (simp only [*, ins_has, has_full, St.has_add]; done) | (simp [-List.map_take, -List.map_drop, or_imp, forall_and, Seg.a, Vec.a, Leg.a, num, okEl, cells_agg, cells_int, cells_sl, cells_bool, AV.isCell]; done) | (simp; omega))) (fun _ _ => ?_))) | (with_reducible refine freshQ_i (fun _ _ => ?_)) | (with_reducible first | refine callH_use (hAt) ?_ | refine pureQ_use (hAt) ?_) | (with_reducible first | refine callH_use (hL) ?_ | refine pureQ_use (hL) ?_)))
          all_goals first | done | exact ⟨trivial⟩ | trace_state
      · obtain rfl : p = true := by rw [HP.out]; simp [q2]
        clear HP HN
        (repeat' (first | (simp (maxDischargeDepth := 16) only [*, num, vX, ↓vD, vU, ↓vMd, vMu, vZ, seval]) | (simp (disch := first | assumption | omega | rfl | exact fun _ => rfl) only [num, vP]) | ((with_reducible first | apply gsnd | apply csnd | apply gsd | apply csd | apply gsn | apply csn | apply gs | apply cs_) <;> intro _) | (with_reducible refine objQ_i (fun _ _ => ?_); repeat with_reducible refine imp_i (fun _ => ?_)) | ((try with_reducible refine appK_a ?_); first | (with_reducible refine appD_F (by refine ⟨?_, ?_, ?_, ?_⟩ <;> (first | assumption | omega | exact St.has_add (by assumption) | (simp only [ins_has]; exact St.has_add (by assumption)) | (simp only [ins_has, fresh_ins, kill_ins, add_ins] at *; exact St.has_add (by assumption)) | (simp only [*, ins_has, has_full, St.has_add]; done) | (simp [-List.map_take, -List.map_drop, or_imp, forall_and, Seg.a, Vec.a, Leg.a, num, okEl, cells_agg, cells_int, cells_sl, cells_bool, AV.isCell]; done) | (simp; omega))) (fun _ _ => ?_)) | (with_reducible refine appD_V (by refine ⟨?_, ?_, ?_, ?_, ?_⟩ <;> (first | assumption | omega | exact St.has_add (by assumption) | (simp only [ins_has]; exact St.has_add (by assumption)) | (simp only [ins_has, fresh_ins, kill_ins, add_ins] at *; exact St.has_add (by assumption)) | (simp only [*, ins_has, has_full, St.has_add]; done) | (simp [-List.map_take, -List.map_drop, or_imp, forall_and, Seg.a, Vec.a, Leg.a, num, okEl, cells_agg, cells_int, cells_sl, cells_bool, AV.isCell]; done) | (simp; omega))) (fun _ _ => ?_))) | (with_reducible refine freshQ_i (fun _ _ => ?_)) | (with_reducible first | refine callH_use (hAt) ?_ | refine pureQ_use (hAt) ?_) | (with_reducible first | refine callH_use (hL) ?_ | refine pureQ_use (hL) ?_)))
        all_goals first | done | exact ⟨trivial⟩ | trace_state
    · obtain rfl : p = true := by rw [HP.out]; simp [q1]
      clear HP HN
      (repeat' (first | (simp (maxDischargeDepth := 16) only [*, num, vX, ↓vD, vU, ↓vMd, vMu, vZ, seval]) | (simp (disch := first | assumption | omega | rfl | exact fun _ => rfl) only [num, vP]) | ((with_reducible first | apply gsnd | apply csnd | apply gsd | apply csd | apply gsn | apply csn | apply gs | apply cs_) <;> intro _) | (with_reducible refine objQ_i (fun _ _ => ?_); repeat with_reducible refine imp_i (fun _ => ?_)) | ((try with_reducible refine appK_a ?_); first | (with_reducible refine appD_F (by refine ⟨?_, ?_, ?_, ?_⟩ <;> (first | assumption | omega | exact St.has_add (by assumption) | (simp only [ins_has]; exact St.has_add (by assumption)) | (simp only [ins_has, fresh_ins, kill_ins, add_ins] at *; exact St.has_add (by assumption)) | (simp only [*, ins_has, has_full, St.has_add]; done) | (simp [-List.map_take, -List.map_drop, or_imp, forall_and, Seg.a, Vec.a, Leg.a, num, okEl, cells_agg, cells_int, cells_sl, cells_bool, AV.isCell]; done) | (simp; omega))) (fun _ _ => ?_)) | (with_reducible refine appD_V (by refine ⟨?_, ?_, ?_, ?_, ?_⟩ <;> (first | assumption | omega | exact St.has_add (by assumption) | (simp only [ins_has]; exact St.has_add (by assumption)) | (simp only [ins_has, fresh_ins, kill_ins, add_ins] at *; exact St.has_add (by assumption)) | (simp only [*, ins_has, has_full, St.has_add]; done) | (simp [-List.map_take, -List.map_drop, or_imp, forall_and, Seg.a, Vec.a, Leg.a, num, okEl, cells_agg, cells_int, cells_sl, cells_bool, AV.isCell]; done) | (simp; omega))) (fun _ _ => ?_))) | (with_reducible refine freshQ_i (fun _ _ => ?_)) | (with_reducible first | refine callH_use (hAt) ?_ | refine pureQ_use (hAt) ?_) | (with_reducible first | refine callH_use (hL) ?_ | refine pureQ_use (hL) ?_)))
      all_goals first | done | exact ⟨trivial⟩ | trace_state
  · rintro fr hfr hd ⟨h10, HK⟩
    rw [List.take_length] at HK
    obtain rfl : b = true := by rw [HI.out]; exact HK.out
    (repeat' (first | (simp (maxDischargeDepth := 16) only [*, vX, ↓vD, vU, ↓vMd, vMu, vZ, seval]) | (simp (disch := first | assumption | omega | rfl | exact fun _ => rfl) only [vP]) | ((with_reducible first | apply gsnd | apply csnd | apply gsd | apply csd | apply gsn | apply csn | apply gs | apply cs_) <;> intro _) | (with_reducible refine objQ_i (fun _ _ => ?_); repeat with_reducible refine imp_i (fun _ => ?_)) | ((try with_reducible refine appK_a ?_); first | (with_reducible refine appD_F (by refine ⟨?_, ?_, ?_, ?_⟩ <;> (first | assumption | omega | exact St.has_add (by assumption) | (simp only [ins_has]; exact St.has_add (by assumption)) | (simp only [ins_has, fresh_ins, kill_ins, add_ins] at *; exact St.has_add (by assumption)) | (simp only [*, ins_has, has_full, St.has_add]; done) | (simp [-List.map_take, -List.map_drop, or_imp, forall_and, Seg.a, Vec.a, Leg.a, num, okEl, cells_agg, cells_int, cells_sl, cells_bool, AV.isCell]; done) | (simp; omega))) (fun _ _ => ?_)) | (with_reducible refine appD_V (by refine ⟨?_, ?_, ?_, ?_, ?_⟩ <;> (first | assumption | omega | exact St.has_add (by assumption) | (simp only [ins_has]; exact St.has_add (by assumption)) | (simp only [ins_has, fresh_ins, kill_ins, add_ins] at *; exact St.has_add (by assumption)) | (simp only [*, ins_has, has_full, St.has_add]; done) | (simp [-List.map_take, -List.map_drop, or_imp, forall_and, Seg.a, Vec.a, Leg.a, num, okEl, cells_agg, cells_int, cells_sl, cells_bool, AV.isCell]; done) | (simp; omega))) (fun _ _ => ?_))) | (with_reducible refine freshQ_i (fun _ _ => ?_))))
    ((try clear hfr); (try clear hfr2); (try clear hfr3); (try clear hf); (try clear hf2); (try clear hd); (try clear hd2); (try clear hd3); (try simp only [fresh_ins, kill_ins, add_ins] at *); (repeat' (first | exact St.le.refl _ | (with_reducible refine le_ins_new ?_ _ (by assumption)) | (with_reducible refine St.le.trans ?_ (add_kill_le (by assumption))) | (with_reducible refine le_add_t _ ?_))))
end Go.Proofs.YtglekfgoadehbaaGreatDoor.V
end
