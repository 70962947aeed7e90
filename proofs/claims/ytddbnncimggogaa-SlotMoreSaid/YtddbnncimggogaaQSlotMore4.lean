/- Texts of this claim, joined: Crle3, Ccalc3, Ccalc4, Cref4, Ccalc5, Pcalc, Pcalc2, Pcalc3, Pcalc4, Pslot, Pslot2, Pspan, VFr, VIt, VLp, VXspan, Cspan, Cspan2, VXfit, Cfit, Pslot3, Pslot4, CslLeg, VXslot, Cslot, Cslot3. -/
import Derived.Test.YtddbnncimggogaaQSlotMore3
import Derived.Test.YtddbnncimggogaaQSlotMore2
import Derived.Test.YtddbnncimggogaaQSlotMore1
import Derived.Test.YtddbnncimggogaaProg
section
set_option linter.unusedSimpArgs false
set_option linter.unusedVariables false
/- rle.folded, Of, Box. -/
namespace Go.Proofs.Ytddbnncimggogaa.V
open Go Go.Proofs Go.Proofs.Ytddbnncimggogaa.SP
set_option maxRecDepth 100000
set_option maxHeartbeats 4000000
theorem le_ins_mono {s t : St} (h : s.le t) (b : Nat) (o : AObj) : (s.ins b o).le (t.ins b o) :=
  ⟨fun i x e => by simp only [St.ins] at e ⊢; split at e <;> rename_i hi <;> simp only [hi, if_true, if_false] at e ⊢; exact e; exact h.objs i x e, h.live⟩
/-- Loads out of a row that other objects lie beside. -/
theorem far_load {zs : List Seg} {rest : List AV} {b : Nat} {S : St} (h : S.objs b = some (.cells (fl Seg.a zs ++ rest))) {k : Nat} (hk : k < zs.length) : vload S (.ptr b (k * 3)) 3 true = some (.agg [.int .i64 zs[k].t, .int .i64 zs[k].v.m, .int .i64 zs[k].v.c]) ∧ vload S (.ptr b (k * 3 + 0)) 1 false = some (.int .i64 zs[k].t) := by
  obtain ⟨_, h2, _⟩ := fl_at Seg.a 3 Seg.ok zs rest k hk
  have hl := fl_len Seg.a 3 Seg.ok zs
  have hg : zs.getD k default = zs[k] := by simp [List.getD_eq_getElem?_getD, List.getElem?_eq_getElem hk]
  rw [hg] at h2
  have hle : k * 3 + 3 ≤ (fl Seg.a zs ++ rest).length := by rw [List.length_append, hl]; omega
  refine ⟨?_, ?_⟩
  · simp only [vload, h, grab]
    rw [if_pos hle, h2]; rfl
  · simp only [vload, h, grab]
    rw [if_pos (by omega), if_neg (by simp)]
    have h3 := congrArg (·[0]?) h2
    simpa [Seg.a, cells_agg] using h3
theorem folded_v (xs : List Seg) (hn : xs.length ≤ 100000000) (t : Tok) : VPure Try.prog 56 [.sl (xs.map Seg.a) t] (.sl ((foldF xs).map Seg.a) .no) := by
  refine VPure.tok (fun Z st => ?_)
  refine VCalls.of v_rle_folded_ok (Nat.le_of_ble_eq_true rfl) ?_
  simp only [v_rle_folded, ↓vD, vU, VE.ev, VE.evs, retvs, tupOf, grab, vfill, vbsl, eqCells, eqCell, veqs, veqs1, vmnx, AV.isCell, AV.isUndef, Nat.reduceEqDiff, Nat.reduceAdd, Nat.reduceSub, Nat.reduceLeDiff, Nat.reduceLT, reduceIte, reduceCtorEq, Nat.reduceBEq, k_app, k_slc1]
  (repeat' (first | (simp (config := { maxDischargeDepth := 16 }) only [*, vX, Int.reduceLE, Int.reduceLT, Int.reduceGE, Int.reduceGT, Int.reduceBEq, Int.reduceBNe, Int.reduceAdd, Int.reduceSub, Int.reduceMul, Int.reduceNeg, ↓vD, vU, VE.ev, VE.evs, retvs, tupOf, grab, vfill, vbsl, eqCells, eqCell, veqs, veqs1, vmnx, AV.isCell, AV.isUndef, Nat.reduceEqDiff, Nat.reduceAdd, Nat.reduceSub, Nat.reduceLeDiff, Nat.reduceLT, reduceIte, reduceCtorEq, Nat.reduceBEq]) | (simp (disch := first | assumption | omega | exact Seg.len _ | exact Vec.len _ | exact Leg.len _ | exact num_len _ | exact rowA_len _ | exact rowA_len | exact rowT_len _ | exact rowT_len | exact Seg.len | exact Vec.len | exact Leg.len | exact num_len | exact AV.slen _ _ | rfl) only [vP]) | (with_reducible (first | refine gsnd (fun _ => ?_) (fun _ => ?_) | refine csnd (fun _ => ?_) (fun _ => ?_) | refine gsd (fun _ => ?_) (fun _ => ?_) | refine csd (fun _ => ?_) (fun _ => ?_) | refine gsn (fun _ => ?_) (fun _ => ?_) | refine csn (fun _ => ?_) (fun _ => ?_))) | (with_reducible refine gs (fun _ => ?_) (fun _ => ?_)) | (with_reducible refine cs_ (fun _ => ?_) (fun _ => ?_)) | (with_reducible refine objQ_i (fun _ _ => ?_); (repeat (with_reducible refine imp_i (fun _ => ?_)))) | ((try with_reducible refine appK_a ?_); first | (with_reducible refine appD_F (by refine ⟨?_, ?_, ?_, ?_⟩ <;> (first | assumption | omega | exact St.has_add (by assumption) | (simp only [ins_has]; exact St.has_add (by assumption)) | (simp only [ins_has, fresh_ins, kill_ins, add_ins] at *; exact St.has_add (by assumption)) | (simp only [*, ins_has, has_full, St.has_add]; done) | (simp [-List.map_take, -List.map_drop, or_imp, forall_and, Seg.a, Vec.a, Leg.a, num, okEl, cells_agg, cells_int, cells_sl, cells_bool, AV.isCell]; done) | (simp; omega))) (fun _ _ => ?_)) | (with_reducible refine appD_V (by refine ⟨?_, ?_, ?_, ?_, ?_⟩ <;> (first | assumption | omega | exact St.has_add (by assumption) | (simp only [ins_has]; exact St.has_add (by assumption)) | (simp only [ins_has, fresh_ins, kill_ins, add_ins] at *; exact St.has_add (by assumption)) | (simp only [*, ins_has, has_full, St.has_add]; done) | (simp [-List.map_take, -List.map_drop, or_imp, forall_and, Seg.a, Vec.a, Leg.a, num, okEl, cells_agg, cells_int, cells_sl, cells_bool, AV.isCell]; done) | (simp; omega))) (fun _ _ => ?_))) | (with_reducible refine freshQ_i (fun _ _ => ?_)) | (with_reducible refine nilQ_i (fun _ _ => ?_))))
  refine callH_then (Clone_v xs (by omega) t st) ?_
  rintro v s (⟨rfl, t', rfl, rfl⟩ | ⟨b, c, rest, hne, hb, rfl, rfl⟩)
  · (repeat' (first | (simp (config := { maxDischargeDepth := 16 }) only [*, vX, Int.reduceLE, Int.reduceLT, Int.reduceGE, Int.reduceGT, Int.reduceBEq, Int.reduceBNe, Int.reduceAdd, Int.reduceSub, Int.reduceMul, Int.reduceNeg, ↓vD, vU, VE.ev, VE.evs, retvs, tupOf, grab, vfill, vbsl, eqCells, eqCell, veqs, veqs1, vmnx, AV.isCell, AV.isUndef, Nat.reduceEqDiff, Nat.reduceAdd, Nat.reduceSub, Nat.reduceLeDiff, Nat.reduceLT, reduceIte, reduceCtorEq, Nat.reduceBEq]) | (simp (disch := first | assumption | omega | exact Seg.len _ | exact Vec.len _ | exact Leg.len _ | exact num_len _ | exact rowA_len _ | exact rowA_len | exact rowT_len _ | exact rowT_len | exact Seg.len | exact Vec.len | exact Leg.len | exact num_len | exact AV.slen _ _ | rfl) only [vP]) | (with_reducible (first | refine gsnd (fun _ => ?_) (fun _ => ?_) | refine csnd (fun _ => ?_) (fun _ => ?_) | refine gsd (fun _ => ?_) (fun _ => ?_) | refine csd (fun _ => ?_) (fun _ => ?_) | refine gsn (fun _ => ?_) (fun _ => ?_) | refine csn (fun _ => ?_) (fun _ => ?_))) | (with_reducible refine gs (fun _ => ?_) (fun _ => ?_)) | (with_reducible refine cs_ (fun _ => ?_) (fun _ => ?_)) | (with_reducible refine objQ_i (fun _ _ => ?_); (repeat (with_reducible refine imp_i (fun _ => ?_)))) | ((try with_reducible refine appK_a ?_); first | (with_reducible refine appD_F (by refine ⟨?_, ?_, ?_, ?_⟩ <;> (first | assumption | omega | exact St.has_add (by assumption) | (simp only [ins_has]; exact St.has_add (by assumption)) | (simp only [ins_has, fresh_ins, kill_ins, add_ins] at *; exact St.has_add (by assumption)) | (simp only [*, ins_has, has_full, St.has_add]; done) | (simp [-List.map_take, -List.map_drop, or_imp, forall_and, Seg.a, Vec.a, Leg.a, num, okEl, cells_agg, cells_int, cells_sl, cells_bool, AV.isCell]; done) | (simp; omega))) (fun _ _ => ?_)) | (with_reducible refine appD_V (by refine ⟨?_, ?_, ?_, ?_, ?_⟩ <;> (first | assumption | omega | exact St.has_add (by assumption) | (simp only [ins_has]; exact St.has_add (by assumption)) | (simp only [ins_has, fresh_ins, kill_ins, add_ins] at *; exact St.has_add (by assumption)) | (simp only [*, ins_has, has_full, St.has_add]; done) | (simp [-List.map_take, -List.map_drop, or_imp, forall_and, Seg.a, Vec.a, Leg.a, num, okEl, cells_agg, cells_int, cells_sl, cells_bool, AV.isCell]; done) | (simp; omega))) (fun _ _ => ?_))) | (with_reducible refine freshQ_i (fun _ _ => ?_)) | (with_reducible refine nilQ_i (fun _ _ => ?_)) | (with_reducible first | refine callH_use (SoSeg.sortStable_nil _ _) ?_ | refine pureQ_use (SoSeg.sortStable_nil _ _) ?_)))
    rename_i b4 h4 b5 h5 n1 n2
    refine loop_out ?_
    (repeat' (first | (simp (config := { maxDischargeDepth := 16 }) only [*, vX, Int.reduceLE, Int.reduceLT, Int.reduceGE, Int.reduceGT, Int.reduceBEq, Int.reduceBNe, Int.reduceAdd, Int.reduceSub, Int.reduceMul, Int.reduceNeg, ↓vD, vU, VE.ev, VE.evs, retvs, tupOf, grab, vfill, vbsl, eqCells, eqCell, veqs, veqs1, vmnx, AV.isCell, AV.isUndef, Nat.reduceEqDiff, Nat.reduceAdd, Nat.reduceSub, Nat.reduceLeDiff, Nat.reduceLT, reduceIte, reduceCtorEq, Nat.reduceBEq]) | (simp (disch := first | assumption | omega | exact Seg.len _ | exact Vec.len _ | exact Leg.len _ | exact num_len _ | exact rowA_len _ | exact rowA_len | exact rowT_len _ | exact rowT_len | exact Seg.len | exact Vec.len | exact Leg.len | exact num_len | exact AV.slen _ _ | rfl) only [vP]) | (with_reducible (first | refine gsnd (fun _ => ?_) (fun _ => ?_) | refine csnd (fun _ => ?_) (fun _ => ?_) | refine gsd (fun _ => ?_) (fun _ => ?_) | refine csd (fun _ => ?_) (fun _ => ?_) | refine gsn (fun _ => ?_) (fun _ => ?_) | refine csn (fun _ => ?_) (fun _ => ?_))) | (with_reducible refine gs (fun _ => ?_) (fun _ => ?_)) | (with_reducible refine cs_ (fun _ => ?_) (fun _ => ?_)) | (with_reducible refine objQ_i (fun _ _ => ?_); (repeat (with_reducible refine imp_i (fun _ => ?_)))) | ((try with_reducible refine appK_a ?_); first | (with_reducible refine appD_F (by refine ⟨?_, ?_, ?_, ?_⟩ <;> (first | assumption | omega | exact St.has_add (by assumption) | (simp only [ins_has]; exact St.has_add (by assumption)) | (simp only [ins_has, fresh_ins, kill_ins, add_ins] at *; exact St.has_add (by assumption)) | (simp only [*, ins_has, has_full, St.has_add]; done) | (simp [-List.map_take, -List.map_drop, or_imp, forall_and, Seg.a, Vec.a, Leg.a, num, okEl, cells_agg, cells_int, cells_sl, cells_bool, AV.isCell]; done) | (simp; omega))) (fun _ _ => ?_)) | (with_reducible refine appD_V (by refine ⟨?_, ?_, ?_, ?_, ?_⟩ <;> (first | assumption | omega | exact St.has_add (by assumption) | (simp only [ins_has]; exact St.has_add (by assumption)) | (simp only [ins_has, fresh_ins, kill_ins, add_ins] at *; exact St.has_add (by assumption)) | (simp only [*, ins_has, has_full, St.has_add]; done) | (simp [-List.map_take, -List.map_drop, or_imp, forall_and, Seg.a, Vec.a, Leg.a, num, okEl, cells_agg, cells_int, cells_sl, cells_bool, AV.isCell]; done) | (simp; omega))) (fun _ _ => ?_))) | (with_reducible refine freshQ_i (fun _ _ => ?_)) | (with_reducible refine nilQ_i (fun _ _ => ?_))))
    exact ⟨s, by (refine ⟨fun i o e => ?_, fun _ h => h⟩; revert e; simp only [St.ins, St.del, add_objs, kill_objs]; (repeat' split); all_goals (first | exact id | (intros; contradiction) | (intros; subst_vars; contradiction) | (intros; simp_all; done) | (intros; subst_vars; simp_all; done))), .full, rfl, rfl⟩
  · have hsort := SoSeg.sortStable (Z := Z) Seg.a Seg.ok Seg.ag (gf := 103) (fs := [.osl b xs.length c]) (cs := []) cmpS swoS (fun x y => compare_v _ _ _ _ _ _ _) st b xs.length c rest xs rfl (by omega)
    have HS := Hid.mk hsort
    clear hsort
    (repeat' (first | (simp (config := { maxDischargeDepth := 16 }) only [*, vX, Int.reduceLE, Int.reduceLT, Int.reduceGE, Int.reduceGT, Int.reduceBEq, Int.reduceBNe, Int.reduceAdd, Int.reduceSub, Int.reduceMul, Int.reduceNeg, ↓vD, vU, VE.ev, VE.evs, retvs, tupOf, grab, vfill, vbsl, eqCells, eqCell, veqs, veqs1, vmnx, AV.isCell, AV.isUndef, Nat.reduceEqDiff, Nat.reduceAdd, Nat.reduceSub, Nat.reduceLeDiff, Nat.reduceLT, reduceIte, reduceCtorEq, Nat.reduceBEq]) | (simp (disch := first | assumption | omega | exact Seg.len _ | exact Vec.len _ | exact Leg.len _ | exact num_len _ | exact rowA_len _ | exact rowA_len | exact rowT_len _ | exact rowT_len | exact Seg.len | exact Vec.len | exact Leg.len | exact num_len | exact AV.slen _ _ | rfl) only [vP]) | (with_reducible (first | refine gsnd (fun _ => ?_) (fun _ => ?_) | refine csnd (fun _ => ?_) (fun _ => ?_) | refine gsd (fun _ => ?_) (fun _ => ?_) | refine csd (fun _ => ?_) (fun _ => ?_) | refine gsn (fun _ => ?_) (fun _ => ?_) | refine csn (fun _ => ?_) (fun _ => ?_))) | (with_reducible refine gs (fun _ => ?_) (fun _ => ?_)) | (with_reducible refine cs_ (fun _ => ?_) (fun _ => ?_)) | (with_reducible refine objQ_i (fun _ _ => ?_); (repeat (with_reducible refine imp_i (fun _ => ?_)))) | ((try with_reducible refine appK_a ?_); first | (with_reducible refine appD_F (by refine ⟨?_, ?_, ?_, ?_⟩ <;> (first | assumption | omega | exact St.has_add (by assumption) | (simp only [ins_has]; exact St.has_add (by assumption)) | (simp only [ins_has, fresh_ins, kill_ins, add_ins] at *; exact St.has_add (by assumption)) | (simp only [*, ins_has, has_full, St.has_add]; done) | (simp [-List.map_take, -List.map_drop, or_imp, forall_and, Seg.a, Vec.a, Leg.a, num, okEl, cells_agg, cells_int, cells_sl, cells_bool, AV.isCell]; done) | (simp; omega))) (fun _ _ => ?_)) | (with_reducible refine appD_V (by refine ⟨?_, ?_, ?_, ?_, ?_⟩ <;> (first | assumption | omega | exact St.has_add (by assumption) | (simp only [ins_has]; exact St.has_add (by assumption)) | (simp only [ins_has, fresh_ins, kill_ins, add_ins] at *; exact St.has_add (by assumption)) | (simp only [*, ins_has, has_full, St.has_add]; done) | (simp [-List.map_take, -List.map_drop, or_imp, forall_and, Seg.a, Vec.a, Leg.a, num, okEl, cells_agg, cells_int, cells_sl, cells_bool, AV.isCell]; done) | (simp; omega))) (fun _ _ => ?_))) | (with_reducible refine freshQ_i (fun _ _ => ?_)) | (with_reducible refine nilQ_i (fun _ _ => ?_))))
    refine callH_then HS.out ?_
    rintro _ _ ⟨rfl, rfl⟩
    clear HS
    have hzl : (sortS (ltB cmpS) xs).length = xs.length := (sortS_stb swoS xs).1.symm
    obtain ⟨zs, hzs⟩ : ∃ zs, sortS (ltB cmpS) xs = zs := ⟨_, rfl⟩
    have hfold : foldF xs = foldB zs [] v0 := by unfold foldF; rw [hzs]
    rw [hzs] at hzl ⊢
    obtain ⟨S0, hS0⟩ : ∃ S0, ob st b Seg.a rest zs = S0 := ⟨_, rfl⟩
    have hSb : S0.objs b = some (.cells (fl Seg.a zs ++ rest)) := by rw [← hS0]; exact ob_objs ..
    have hSle : st.le S0 := by rw [← hS0]; unfold ob; (refine ⟨fun i o e => ?_, fun _ h => h⟩; revert e; simp only [St.ins, St.del, add_objs, kill_objs]; (repeat' split); all_goals (first | exact id | (intros; contradiction) | (intros; subst_vars; contradiction) | (intros; simp_all; done) | (intros; subst_vars; simp_all; done)))
    rw [hS0]
    obtain ⟨n, hnn⟩ : ∃ n, xs.length = n := ⟨_, rfl⟩
    rw [hnn] at hzl hn ⊢
    have HF := Hid.mk hfold
    have HB := Hid.mk hSb
    have hlen : ∀ (b n c : Nat), vlen (.osl b n c) = some (.int .i64 n) := fun _ _ _ => rfl
    clear hS0 hfold hSb hzs hnn hne
    (repeat' (first | (simp (config := { maxDischargeDepth := 16 }) only [*, vX, Int.reduceLE, Int.reduceLT, Int.reduceGE, Int.reduceGT, Int.reduceBEq, Int.reduceBNe, Int.reduceAdd, Int.reduceSub, Int.reduceMul, Int.reduceNeg, ↓vD, vU, VE.ev, VE.evs, retvs, tupOf, grab, vfill, vbsl, eqCells, eqCell, veqs, veqs1, vmnx, AV.isCell, AV.isUndef, Nat.reduceEqDiff, Nat.reduceAdd, Nat.reduceSub, Nat.reduceLeDiff, Nat.reduceLT, reduceIte, reduceCtorEq, Nat.reduceBEq]) | (simp (disch := first | assumption | omega | exact Seg.len _ | exact Vec.len _ | exact Leg.len _ | exact num_len _ | exact rowA_len _ | exact rowA_len | exact rowT_len _ | exact rowT_len | exact Seg.len | exact Vec.len | exact Leg.len | exact num_len | exact AV.slen _ _ | rfl) only [vP]) | (with_reducible (first | refine gsnd (fun _ => ?_) (fun _ => ?_) | refine csnd (fun _ => ?_) (fun _ => ?_) | refine gsd (fun _ => ?_) (fun _ => ?_) | refine csd (fun _ => ?_) (fun _ => ?_) | refine gsn (fun _ => ?_) (fun _ => ?_) | refine csn (fun _ => ?_) (fun _ => ?_))) | (with_reducible refine gs (fun _ => ?_) (fun _ => ?_)) | (with_reducible refine cs_ (fun _ => ?_) (fun _ => ?_)) | (with_reducible refine objQ_i (fun _ _ => ?_); (repeat (with_reducible refine imp_i (fun _ => ?_)))) | ((try with_reducible refine appK_a ?_); first | (with_reducible refine appD_F (by refine ⟨?_, ?_, ?_, ?_⟩ <;> (first | assumption | omega | exact St.has_add (by assumption) | (simp only [ins_has]; exact St.has_add (by assumption)) | (simp only [ins_has, fresh_ins, kill_ins, add_ins] at *; exact St.has_add (by assumption)) | (simp only [*, ins_has, has_full, St.has_add]; done) | (simp [-List.map_take, -List.map_drop, or_imp, forall_and, Seg.a, Vec.a, Leg.a, num, okEl, cells_agg, cells_int, cells_sl, cells_bool, AV.isCell]; done) | (simp; omega))) (fun _ _ => ?_)) | (with_reducible refine appD_V (by refine ⟨?_, ?_, ?_, ?_, ?_⟩ <;> (first | assumption | omega | exact St.has_add (by assumption) | (simp only [ins_has]; exact St.has_add (by assumption)) | (simp only [ins_has, fresh_ins, kill_ins, add_ins] at *; exact St.has_add (by assumption)) | (simp only [*, ins_has, has_full, St.has_add]; done) | (simp [-List.map_take, -List.map_drop, or_imp, forall_and, Seg.a, Vec.a, Leg.a, num, okEl, cells_agg, cells_int, cells_sl, cells_bool, AV.isCell]; done) | (simp; omega))) (fun _ _ => ?_))) | (with_reducible refine freshQ_i (fun _ _ => ?_)) | (with_reducible refine nilQ_i (fun _ _ => ?_))))
    rename_i b4 h4 b5 h5 n54 n45
    refine loopf_of (len := n) (by simp only [asgL, dsts, List.cons_append, List.nil_append, List.append_nil]; rfl) (by simp only [noR, Bool.and_true, Bool.and_false]; rfl) (by omega) (fun k fr s => ∃ acc l tk S', s = (S'.ins b4 (.cells [.sl (acc.map Seg.a) tk])).ins b5 (.cells [.int .i64 l.m, .int .i64 l.c]) ∧ Ours 3 S0 S' tk ∧ fr.t 18 = .int .i64 k ∧ acc.length ≤ k ∧ Hid (foldB (zs.drop k) acc l = foldF xs)) ?_ ?_ ?_
    · exact ⟨[], v0, .full, S0, rfl, Ours.full 3 S0, by simp [↓vD, vU, VE.ev, VE.evs, retvs, tupOf, grab, vfill, vbsl, eqCells, eqCell, veqs, veqs1, vmnx, AV.isCell, AV.isUndef, Nat.reduceEqDiff, Nat.reduceAdd, Nat.reduceSub, Nat.reduceLeDiff, Nat.reduceLT, reduceIte, reduceCtorEq, Nat.reduceBEq, k_app, k_slc1], by simp, ⟨by rw [HF.out]; rfl⟩⟩
    · rintro k fr s hk hw hf hd ⟨acc, l, tk, S', rfl, ho, h18, hal, HK⟩
      have h4' : S'.objs b4 = none := by rw [ho.objs]; exact h4
      have h5' : S'.objs b5 = none := by rw [ho.objs]; exact h5
      have hb' : S'.objs b = some (.cells (fl Seg.a zs ++ rest)) := by rw [ho.objs]; exact HB.out
      have nb4 : ¬ b = b4 := fun e => by rw [e, h4'] at hb'; cases hb'
      have nb5 : ¬ b = b5 := fun e => by rw [e, h5'] at hb'; cases hb'
      have hkz : k < zs.length := by omega
      have hia : viad 3 (.osl b n c) (.int .i64 (k : Int)) = some (.ptr b (k * 3)) := ob_iad b n c .i64 k 3 hk
      have hld : ∀ o4 o5, vload ((S'.ins b4 o4).ins b5 o5) (.ptr b (k * 3)) 3 true = some (.agg [.int .i64 zs[k].t, .int .i64 zs[k].v.m, .int .i64 zs[k].v.c]) := fun o4 o5 => (far_load (rest := rest) (by simp [St.ins, nb4, nb5, hb']) hkz).1
      obtain ⟨x, hx⟩ : ∃ x, zs[k] = x := ⟨_, rfl⟩
      simp only [hx] at hld
      have HX := Hid.mk hx
      have HO := Hid.mk hb'
      clear hx hb'
      by_cases hlast : k + 1 = n
      · have e1 : ((k : Int) + 1 == n) = true := by simp; omega
        have HG : Hid (foldB (zs.drop k) acc l = foldB (zs.drop (k + 1)) (putF acc l x).1 (putF acc l x).2) := ⟨by rw [foldB_go zs acc l k hkz (.inl (by omega)), HX.out]⟩
        have HL := Hid.mk hlast
        clear hlast
        (repeat' (first | (simp (config := { maxDischargeDepth := 16 }) only [*, vX, Int.reduceLE, Int.reduceLT, Int.reduceGE, Int.reduceGT, Int.reduceBEq, Int.reduceBNe, Int.reduceAdd, Int.reduceSub, Int.reduceMul, Int.reduceNeg, ↓vD, vU, VE.ev, VE.evs, retvs, tupOf, grab, vfill, vbsl, eqCells, eqCell, veqs, veqs1, vmnx, AV.isCell, AV.isUndef, Nat.reduceEqDiff, Nat.reduceAdd, Nat.reduceSub, Nat.reduceLeDiff, Nat.reduceLT, reduceIte, reduceCtorEq, Nat.reduceBEq]) | (simp (disch := first | assumption | omega | exact Seg.len _ | exact Vec.len _ | exact Leg.len _ | exact num_len _ | exact rowA_len _ | exact rowA_len | exact rowT_len _ | exact rowT_len | exact Seg.len | exact Vec.len | exact Leg.len | exact num_len | exact AV.slen _ _ | rfl) only [vP]) | (with_reducible (first | refine gsnd (fun _ => ?_) (fun _ => ?_) | refine csnd (fun _ => ?_) (fun _ => ?_) | refine gsd (fun _ => ?_) (fun _ => ?_) | refine csd (fun _ => ?_) (fun _ => ?_) | refine gsn (fun _ => ?_) (fun _ => ?_) | refine csn (fun _ => ?_) (fun _ => ?_))) | (with_reducible refine gs (fun _ => ?_) (fun _ => ?_)) | (with_reducible refine cs_ (fun _ => ?_) (fun _ => ?_)) | (with_reducible refine objQ_i (fun _ _ => ?_); (repeat (with_reducible refine imp_i (fun _ => ?_)))) | ((try with_reducible refine appK_a ?_); first | (with_reducible refine appD_F (by refine ⟨?_, ?_, ?_, ?_⟩ <;> (first | assumption | omega | exact St.has_add (by assumption) | (simp only [ins_has]; exact St.has_add (by assumption)) | (simp only [ins_has, fresh_ins, kill_ins, add_ins] at *; exact St.has_add (by assumption)) | (simp only [*, ins_has, has_full, St.has_add]; done) | (simp [-List.map_take, -List.map_drop, or_imp, forall_and, Seg.a, Vec.a, Leg.a, num, okEl, cells_agg, cells_int, cells_sl, cells_bool, AV.isCell]; done) | (simp; omega))) (fun _ _ => ?_)) | (with_reducible refine appD_V (by refine ⟨?_, ?_, ?_, ?_, ?_⟩ <;> (first | assumption | omega | exact St.has_add (by assumption) | (simp only [ins_has]; exact St.has_add (by assumption)) | (simp only [ins_has, fresh_ins, kill_ins, add_ins] at *; exact St.has_add (by assumption)) | (simp only [*, ins_has, has_full, St.has_add]; done) | (simp [-List.map_take, -List.map_drop, or_imp, forall_and, Seg.a, Vec.a, Leg.a, num, okEl, cells_agg, cells_int, cells_sl, cells_bool, AV.isCell]; done) | (simp; omega))) (fun _ _ => ?_))) | (with_reducible refine freshQ_i (fun _ _ => ?_)) | (with_reducible refine nilQ_i (fun _ _ => ?_))))
        rename_i b8 h8 n84 n48 n85 n58
        refine callH_eq (put_v (Z := Z) ((S'.ins b8 (.cells [.int .i64 x.t, .int .i64 x.v.m, .int .i64 x.v.c])).kill tk) (S'.ins b8 (.cells [.int .i64 x.t, .int .i64 x.v.m, .int .i64 x.v.c])) b4 b5 (by simp [St.ins, h4', n48]) (by simp [St.ins, h5', n58]) n54 acc tk l x.t x.v.m x.v.c (by omega) (Ours.self (by rw [ins_has]; exact ho.has))) (by simp only [St.ins]; congr 1; funext i; (repeat' split) <;> (first | rfl | contradiction | (subst_vars; contradiction) | (subst_vars; rfl))) ?_
        rintro _ _ ⟨rfl, tk', st', ho', rfl⟩
        obtain ⟨ho2, hle2⟩ := ho.drop h8 ho'
        (repeat' (first | (simp (config := { maxDischargeDepth := 16 }) only [*, vX, Int.reduceLE, Int.reduceLT, Int.reduceGE, Int.reduceGT, Int.reduceBEq, Int.reduceBNe, Int.reduceAdd, Int.reduceSub, Int.reduceMul, Int.reduceNeg, ↓vD, vU, VE.ev, VE.evs, retvs, tupOf, grab, vfill, vbsl, eqCells, eqCell, veqs, veqs1, vmnx, AV.isCell, AV.isUndef, Nat.reduceEqDiff, Nat.reduceAdd, Nat.reduceSub, Nat.reduceLeDiff, Nat.reduceLT, reduceIte, reduceCtorEq, Nat.reduceBEq]) | (simp (disch := first | assumption | omega | exact Seg.len _ | exact Vec.len _ | exact Leg.len _ | exact num_len _ | exact rowA_len _ | exact rowA_len | exact rowT_len _ | exact rowT_len | exact Seg.len | exact Vec.len | exact Leg.len | exact num_len | exact AV.slen _ _ | rfl) only [vP]) | (with_reducible (first | refine gsnd (fun _ => ?_) (fun _ => ?_) | refine csnd (fun _ => ?_) (fun _ => ?_) | refine gsd (fun _ => ?_) (fun _ => ?_) | refine csd (fun _ => ?_) (fun _ => ?_) | refine gsn (fun _ => ?_) (fun _ => ?_) | refine csn (fun _ => ?_) (fun _ => ?_))) | (with_reducible refine gs (fun _ => ?_) (fun _ => ?_)) | (with_reducible refine cs_ (fun _ => ?_) (fun _ => ?_)) | (with_reducible refine objQ_i (fun _ _ => ?_); (repeat (with_reducible refine imp_i (fun _ => ?_)))) | ((try with_reducible refine appK_a ?_); first | (with_reducible refine appD_F (by refine ⟨?_, ?_, ?_, ?_⟩ <;> (first | assumption | omega | exact St.has_add (by assumption) | (simp only [ins_has]; exact St.has_add (by assumption)) | (simp only [ins_has, fresh_ins, kill_ins, add_ins] at *; exact St.has_add (by assumption)) | (simp only [*, ins_has, has_full, St.has_add]; done) | (simp [-List.map_take, -List.map_drop, or_imp, forall_and, Seg.a, Vec.a, Leg.a, num, okEl, cells_agg, cells_int, cells_sl, cells_bool, AV.isCell]; done) | (simp; omega))) (fun _ _ => ?_)) | (with_reducible refine appD_V (by refine ⟨?_, ?_, ?_, ?_, ?_⟩ <;> (first | assumption | omega | exact St.has_add (by assumption) | (simp only [ins_has]; exact St.has_add (by assumption)) | (simp only [ins_has, fresh_ins, kill_ins, add_ins] at *; exact St.has_add (by assumption)) | (simp only [*, ins_has, has_full, St.has_add]; done) | (simp [-List.map_take, -List.map_drop, or_imp, forall_and, Seg.a, Vec.a, Leg.a, num, okEl, cells_agg, cells_int, cells_sl, cells_bool, AV.isCell]; done) | (simp; omega))) (fun _ _ => ?_))) | (with_reducible refine freshQ_i (fun _ _ => ?_)) | (with_reducible refine nilQ_i (fun _ _ => ?_))))
        exact ⟨_, le_ins_mono (le_ins_mono hle2 _ _) _ _, (putF acc l x).1, (putF acc l x).2, tk', _, rfl, ho2, Nat.le_trans (putF_len acc l x) (by omega), ⟨HG.out.symm.trans HK.out⟩⟩
      · have hk1 : k + 1 < n := by omega
        have hk1z : k + 1 < zs.length := by omega
        have e1 : ((k : Int) + 1 == n) = false := by simp; omega
        have hia2 : viad 3 (.osl b n c) (.int .i64 ((k : Int) + 1)) = some (.ptr b ((k + 1) * 3)) := ob_iad b n c .i64 (k + 1) 3 hk1
        have hld2 : ∀ o4 o5 b8 o8, S'.objs b8 = none → vload (((S'.ins b4 o4).ins b5 o5).ins b8 o8) (.ptr b ((k + 1) * 3)) 1 false = some (.int .i64 zs[k + 1].t) := fun o4 o5 b8 o8 h8 => (far_load (rest := rest) (by
          have nb8 : ¬ b = b8 := fun e => by have := HO.out; rw [e, h8] at this; cases this
          simp [St.ins, nb4, nb5, nb8, HO.out]) hk1z).2
        obtain ⟨u, hu⟩ : ∃ u, zs[k + 1].t = u := ⟨_, rfl⟩
        simp only [hu] at hld2
        by_cases hne : u = x.t
        · have HG : Hid (foldB (zs.drop k) acc l = foldB (zs.drop (k + 1)) acc l) := ⟨foldB_stay zs acc l k hk1z (by rw [hu, HX.out, hne])⟩
          clear hlast hu
          (repeat' (first | (simp (config := { maxDischargeDepth := 16 }) only [*, vX, Int.reduceLE, Int.reduceLT, Int.reduceGE, Int.reduceGT, Int.reduceBEq, Int.reduceBNe, Int.reduceAdd, Int.reduceSub, Int.reduceMul, Int.reduceNeg, ↓vD, vU, VE.ev, VE.evs, retvs, tupOf, grab, vfill, vbsl, eqCells, eqCell, veqs, veqs1, vmnx, AV.isCell, AV.isUndef, Nat.reduceEqDiff, Nat.reduceAdd, Nat.reduceSub, Nat.reduceLeDiff, Nat.reduceLT, reduceIte, reduceCtorEq, Nat.reduceBEq]) | (simp (disch := first | assumption | omega | exact Seg.len _ | exact Vec.len _ | exact Leg.len _ | exact num_len _ | exact rowA_len _ | exact rowA_len | exact rowT_len _ | exact rowT_len | exact Seg.len | exact Vec.len | exact Leg.len | exact num_len | exact AV.slen _ _ | rfl) only [vP]) | (with_reducible (first | refine gsnd (fun _ => ?_) (fun _ => ?_) | refine csnd (fun _ => ?_) (fun _ => ?_) | refine gsd (fun _ => ?_) (fun _ => ?_) | refine csd (fun _ => ?_) (fun _ => ?_) | refine gsn (fun _ => ?_) (fun _ => ?_) | refine csn (fun _ => ?_) (fun _ => ?_))) | (with_reducible refine gs (fun _ => ?_) (fun _ => ?_)) | (with_reducible refine cs_ (fun _ => ?_) (fun _ => ?_)) | (with_reducible refine objQ_i (fun _ _ => ?_); (repeat (with_reducible refine imp_i (fun _ => ?_)))) | ((try with_reducible refine appK_a ?_); first | (with_reducible refine appD_F (by refine ⟨?_, ?_, ?_, ?_⟩ <;> (first | assumption | omega | exact St.has_add (by assumption) | (simp only [ins_has]; exact St.has_add (by assumption)) | (simp only [ins_has, fresh_ins, kill_ins, add_ins] at *; exact St.has_add (by assumption)) | (simp only [*, ins_has, has_full, St.has_add]; done) | (simp [-List.map_take, -List.map_drop, or_imp, forall_and, Seg.a, Vec.a, Leg.a, num, okEl, cells_agg, cells_int, cells_sl, cells_bool, AV.isCell]; done) | (simp; omega))) (fun _ _ => ?_)) | (with_reducible refine appD_V (by refine ⟨?_, ?_, ?_, ?_, ?_⟩ <;> (first | assumption | omega | exact St.has_add (by assumption) | (simp only [ins_has]; exact St.has_add (by assumption)) | (simp only [ins_has, fresh_ins, kill_ins, add_ins] at *; exact St.has_add (by assumption)) | (simp only [*, ins_has, has_full, St.has_add]; done) | (simp [-List.map_take, -List.map_drop, or_imp, forall_and, Seg.a, Vec.a, Leg.a, num, okEl, cells_agg, cells_int, cells_sl, cells_bool, AV.isCell]; done) | (simp; omega))) (fun _ _ => ?_))) | (with_reducible refine freshQ_i (fun _ _ => ?_)) | (with_reducible refine nilQ_i (fun _ _ => ?_))))
          rename_i b8 h8 n84 n48 n85 n58
          exact ⟨(S'.ins b4 (.cells [.sl (acc.map Seg.a) tk])).ins b5 (.cells [.int .i64 l.m, .int .i64 l.c]), by (refine ⟨fun i o e => ?_, fun _ h => h⟩; revert e; simp only [St.ins, St.del, add_objs, kill_objs]; (repeat' split); all_goals (first | exact id | (intros; contradiction) | (intros; subst_vars; contradiction) | (intros; simp_all; done) | (intros; subst_vars; simp_all; done))), acc, l, tk, S', rfl, ho, by omega, ⟨HG.out.symm.trans HK.out⟩⟩
        · have HG : Hid (foldB (zs.drop k) acc l = foldB (zs.drop (k + 1)) (putF acc l x).1 (putF acc l x).2) := ⟨by rw [foldB_go zs acc l k hkz (.inr ⟨hk1z, by rw [hu, HX.out]; exact hne⟩), HX.out]⟩
          clear hlast hu
          (repeat' (first | (simp (config := { maxDischargeDepth := 16 }) only [*, vX, Int.reduceLE, Int.reduceLT, Int.reduceGE, Int.reduceGT, Int.reduceBEq, Int.reduceBNe, Int.reduceAdd, Int.reduceSub, Int.reduceMul, Int.reduceNeg, ↓vD, vU, VE.ev, VE.evs, retvs, tupOf, grab, vfill, vbsl, eqCells, eqCell, veqs, veqs1, vmnx, AV.isCell, AV.isUndef, Nat.reduceEqDiff, Nat.reduceAdd, Nat.reduceSub, Nat.reduceLeDiff, Nat.reduceLT, reduceIte, reduceCtorEq, Nat.reduceBEq]) | (simp (disch := first | assumption | omega | exact Seg.len _ | exact Vec.len _ | exact Leg.len _ | exact num_len _ | exact rowA_len _ | exact rowA_len | exact rowT_len _ | exact rowT_len | exact Seg.len | exact Vec.len | exact Leg.len | exact num_len | exact AV.slen _ _ | rfl) only [vP]) | (with_reducible (first | refine gsnd (fun _ => ?_) (fun _ => ?_) | refine csnd (fun _ => ?_) (fun _ => ?_) | refine gsd (fun _ => ?_) (fun _ => ?_) | refine csd (fun _ => ?_) (fun _ => ?_) | refine gsn (fun _ => ?_) (fun _ => ?_) | refine csn (fun _ => ?_) (fun _ => ?_))) | (with_reducible refine gs (fun _ => ?_) (fun _ => ?_)) | (with_reducible refine cs_ (fun _ => ?_) (fun _ => ?_)) | (with_reducible refine objQ_i (fun _ _ => ?_); (repeat (with_reducible refine imp_i (fun _ => ?_)))) | ((try with_reducible refine appK_a ?_); first | (with_reducible refine appD_F (by refine ⟨?_, ?_, ?_, ?_⟩ <;> (first | assumption | omega | exact St.has_add (by assumption) | (simp only [ins_has]; exact St.has_add (by assumption)) | (simp only [ins_has, fresh_ins, kill_ins, add_ins] at *; exact St.has_add (by assumption)) | (simp only [*, ins_has, has_full, St.has_add]; done) | (simp [-List.map_take, -List.map_drop, or_imp, forall_and, Seg.a, Vec.a, Leg.a, num, okEl, cells_agg, cells_int, cells_sl, cells_bool, AV.isCell]; done) | (simp; omega))) (fun _ _ => ?_)) | (with_reducible refine appD_V (by refine ⟨?_, ?_, ?_, ?_, ?_⟩ <;> (first | assumption | omega | exact St.has_add (by assumption) | (simp only [ins_has]; exact St.has_add (by assumption)) | (simp only [ins_has, fresh_ins, kill_ins, add_ins] at *; exact St.has_add (by assumption)) | (simp only [*, ins_has, has_full, St.has_add]; done) | (simp [-List.map_take, -List.map_drop, or_imp, forall_and, Seg.a, Vec.a, Leg.a, num, okEl, cells_agg, cells_int, cells_sl, cells_bool, AV.isCell]; done) | (simp; omega))) (fun _ _ => ?_))) | (with_reducible refine freshQ_i (fun _ _ => ?_)) | (with_reducible refine nilQ_i (fun _ _ => ?_))))
          rename_i b8 h8 n84 n48 n85 n58
          refine callH_eq (put_v (Z := Z) ((S'.ins b8 (.cells [.int .i64 x.t, .int .i64 x.v.m, .int .i64 x.v.c])).kill tk) (S'.ins b8 (.cells [.int .i64 x.t, .int .i64 x.v.m, .int .i64 x.v.c])) b4 b5 (by simp [St.ins, h4', n48]) (by simp [St.ins, h5', n58]) n54 acc tk l x.t x.v.m x.v.c (by omega) (Ours.self (by rw [ins_has]; exact ho.has))) (by simp only [St.ins]; congr 1; funext i; (repeat' split) <;> (first | rfl | contradiction | (subst_vars; contradiction) | (subst_vars; rfl))) ?_
          rintro _ _ ⟨rfl, tk', st', ho', rfl⟩
          obtain ⟨ho2, hle2⟩ := ho.drop h8 ho'
          (repeat' (first | (simp (config := { maxDischargeDepth := 16 }) only [*, vX, Int.reduceLE, Int.reduceLT, Int.reduceGE, Int.reduceGT, Int.reduceBEq, Int.reduceBNe, Int.reduceAdd, Int.reduceSub, Int.reduceMul, Int.reduceNeg, ↓vD, vU, VE.ev, VE.evs, retvs, tupOf, grab, vfill, vbsl, eqCells, eqCell, veqs, veqs1, vmnx, AV.isCell, AV.isUndef, Nat.reduceEqDiff, Nat.reduceAdd, Nat.reduceSub, Nat.reduceLeDiff, Nat.reduceLT, reduceIte, reduceCtorEq, Nat.reduceBEq]) | (simp (disch := first | assumption | omega | exact Seg.len _ | exact Vec.len _ | exact Leg.len _ | exact num_len _ | exact rowA_len _ | exact rowA_len | exact rowT_len _ | exact rowT_len | exact Seg.len | exact Vec.len | exact Leg.len | exact num_len | exact AV.slen _ _ | rfl) only [vP]) | (with_reducible (first | refine gsnd (fun _ => ?_) (fun _ => ?_) | refine csnd (fun _ => ?_) (fun _ => ?_) | refine gsd (fun _ => ?_) (fun _ => ?_) | refine csd (fun _ => ?_) (fun _ => ?_) | refine gsn (fun _ => ?_) (fun _ => ?_) | refine csn (fun _ => ?_) (fun _ => ?_))) | (with_reducible refine gs (fun _ => ?_) (fun _ => ?_)) | (with_reducible refine cs_ (fun _ => ?_) (fun _ => ?_)) | (with_reducible refine objQ_i (fun _ _ => ?_); (repeat (with_reducible refine imp_i (fun _ => ?_)))) | ((try with_reducible refine appK_a ?_); first | (with_reducible refine appD_F (by refine ⟨?_, ?_, ?_, ?_⟩ <;> (first | assumption | omega | exact St.has_add (by assumption) | (simp only [ins_has]; exact St.has_add (by assumption)) | (simp only [ins_has, fresh_ins, kill_ins, add_ins] at *; exact St.has_add (by assumption)) | (simp only [*, ins_has, has_full, St.has_add]; done) | (simp [-List.map_take, -List.map_drop, or_imp, forall_and, Seg.a, Vec.a, Leg.a, num, okEl, cells_agg, cells_int, cells_sl, cells_bool, AV.isCell]; done) | (simp; omega))) (fun _ _ => ?_)) | (with_reducible refine appD_V (by refine ⟨?_, ?_, ?_, ?_, ?_⟩ <;> (first | assumption | omega | exact St.has_add (by assumption) | (simp only [ins_has]; exact St.has_add (by assumption)) | (simp only [ins_has, fresh_ins, kill_ins, add_ins] at *; exact St.has_add (by assumption)) | (simp only [*, ins_has, has_full, St.has_add]; done) | (simp [-List.map_take, -List.map_drop, or_imp, forall_and, Seg.a, Vec.a, Leg.a, num, okEl, cells_agg, cells_int, cells_sl, cells_bool, AV.isCell]; done) | (simp; omega))) (fun _ _ => ?_))) | (with_reducible refine freshQ_i (fun _ _ => ?_)) | (with_reducible refine nilQ_i (fun _ _ => ?_))))
          exact ⟨_, le_ins_mono (le_ins_mono hle2 _ _) _ _, (putF acc l x).1, (putF acc l x).2, tk', _, rfl, ho2, Nat.le_trans (putF_len acc l x) (by omega), ⟨HG.out.symm.trans HK.out⟩⟩
    · rintro fr s hf hd ⟨acc, l, tk, S', rfl, ho, h18, hal, HK⟩
      have h4' : S'.objs b4 = none := by rw [ho.objs]; exact h4
      have h5' : S'.objs b5 = none := by rw [ho.objs]; exact h5
      have hle : st.le ((S'.ins b4 (.cells [.sl (acc.map Seg.a) tk])).ins b5 (.cells [.int .i64 l.m, .int .i64 l.c])) := (hSle.trans ho.under).trans (by (refine ⟨fun i o e => ?_, fun _ h => h⟩; revert e; simp only [St.ins, St.del, add_objs, kill_objs]; (repeat' split); all_goals (first | exact id | (intros; contradiction) | (intros; subst_vars; contradiction) | (intros; simp_all; done) | (intros; subst_vars; simp_all; done))))
      have hfin : acc = foldF xs := by rw [← HK.out, List.drop_of_length_le (by omega)]; rfl
      have HN := Hid.mk hfin
      clear hfin
      (repeat' (first | (simp (config := { maxDischargeDepth := 16 }) only [*, vX, Int.reduceLE, Int.reduceLT, Int.reduceGE, Int.reduceGT, Int.reduceBEq, Int.reduceBNe, Int.reduceAdd, Int.reduceSub, Int.reduceMul, Int.reduceNeg, ↓vD, vU, VE.ev, VE.evs, retvs, tupOf, grab, vfill, vbsl, eqCells, eqCell, veqs, veqs1, vmnx, AV.isCell, AV.isUndef, Nat.reduceEqDiff, Nat.reduceAdd, Nat.reduceSub, Nat.reduceLeDiff, Nat.reduceLT, reduceIte, reduceCtorEq, Nat.reduceBEq]) | (simp (disch := first | assumption | omega | exact Seg.len _ | exact Vec.len _ | exact Leg.len _ | exact num_len _ | exact rowA_len _ | exact rowA_len | exact rowT_len _ | exact rowT_len | exact Seg.len | exact Vec.len | exact Leg.len | exact num_len | exact AV.slen _ _ | rfl) only [vP]) | (with_reducible (first | refine gsnd (fun _ => ?_) (fun _ => ?_) | refine csnd (fun _ => ?_) (fun _ => ?_) | refine gsd (fun _ => ?_) (fun _ => ?_) | refine csd (fun _ => ?_) (fun _ => ?_) | refine gsn (fun _ => ?_) (fun _ => ?_) | refine csn (fun _ => ?_) (fun _ => ?_))) | (with_reducible refine gs (fun _ => ?_) (fun _ => ?_)) | (with_reducible refine cs_ (fun _ => ?_) (fun _ => ?_)) | (with_reducible refine objQ_i (fun _ _ => ?_); (repeat (with_reducible refine imp_i (fun _ => ?_)))) | ((try with_reducible refine appK_a ?_); first | (with_reducible refine appD_F (by refine ⟨?_, ?_, ?_, ?_⟩ <;> (first | assumption | omega | exact St.has_add (by assumption) | (simp only [ins_has]; exact St.has_add (by assumption)) | (simp only [ins_has, fresh_ins, kill_ins, add_ins] at *; exact St.has_add (by assumption)) | (simp only [*, ins_has, has_full, St.has_add]; done) | (simp [-List.map_take, -List.map_drop, or_imp, forall_and, Seg.a, Vec.a, Leg.a, num, okEl, cells_agg, cells_int, cells_sl, cells_bool, AV.isCell]; done) | (simp; omega))) (fun _ _ => ?_)) | (with_reducible refine appD_V (by refine ⟨?_, ?_, ?_, ?_, ?_⟩ <;> (first | assumption | omega | exact St.has_add (by assumption) | (simp only [ins_has]; exact St.has_add (by assumption)) | (simp only [ins_has, fresh_ins, kill_ins, add_ins] at *; exact St.has_add (by assumption)) | (simp only [*, ins_has, has_full, St.has_add]; done) | (simp [-List.map_take, -List.map_drop, or_imp, forall_and, Seg.a, Vec.a, Leg.a, num, okEl, cells_agg, cells_int, cells_sl, cells_bool, AV.isCell]; done) | (simp; omega))) (fun _ _ => ?_))) | (with_reducible refine freshQ_i (fun _ _ => ?_)) | (with_reducible refine nilQ_i (fun _ _ => ?_))))
      exact ⟨st, hle, tk, by rw [HN.out], rfl⟩
def ofF (xs : List Seg) : List Seg × Int := if xs.all inSeg then (foldF xs, 0) else ([], 10)
theorem Of_v (xs : List Seg) (hn : xs.length ≤ 100000000) (t : Tok) : VPure Try.prog 16 [.sl (xs.map Seg.a) t] (.tup [.sl ((ofF xs).1.map Seg.a) .no, num (ofF xs).2]) := by
  refine VPure.tokT (fun Z st => ?_)
  have hany := contains_pSeg (f := 54) (fs := []) (cs := []) xs (by omega) t (fun x => !inSeg x) (fun x => Of1_v x.t x.v.m x.v.c)
  have hf := folded_v xs hn t
  refine VCalls.of v_rle_Of_ok (Nat.le_of_ble_eq_true rfl) ?_
  simp only [v_rle_Of, ↓vD, vU, VE.ev, VE.evs, retvs, tupOf, grab, vfill, vbsl, eqCells, eqCell, veqs, veqs1, vmnx, AV.isCell, AV.isUndef, Nat.reduceEqDiff, Nat.reduceAdd, Nat.reduceSub, Nat.reduceLeDiff, Nat.reduceLT, reduceIte, reduceCtorEq, Nat.reduceBEq, k_app, k_slc1]
  (repeat' (first | (simp (config := { maxDischargeDepth := 16 }) only [*, vX, Int.reduceLE, Int.reduceLT, Int.reduceGE, Int.reduceGT, Int.reduceBEq, Int.reduceBNe, Int.reduceAdd, Int.reduceSub, Int.reduceMul, Int.reduceNeg, ↓vD, vU, VE.ev, VE.evs, retvs, tupOf, grab, vfill, vbsl, eqCells, eqCell, veqs, veqs1, vmnx, AV.isCell, AV.isUndef, Nat.reduceEqDiff, Nat.reduceAdd, Nat.reduceSub, Nat.reduceLeDiff, Nat.reduceLT, reduceIte, reduceCtorEq, Nat.reduceBEq]) | (simp (disch := first | assumption | omega | exact Seg.len _ | exact Vec.len _ | exact Leg.len _ | exact num_len _ | exact rowA_len _ | exact rowA_len | exact rowT_len _ | exact rowT_len | exact Seg.len | exact Vec.len | exact Leg.len | exact num_len | exact AV.slen _ _ | rfl) only [vP]) | (with_reducible (first | refine gsnd (fun _ => ?_) (fun _ => ?_) | refine csnd (fun _ => ?_) (fun _ => ?_) | refine gsd (fun _ => ?_) (fun _ => ?_) | refine csd (fun _ => ?_) (fun _ => ?_) | refine gsn (fun _ => ?_) (fun _ => ?_) | refine csn (fun _ => ?_) (fun _ => ?_))) | (with_reducible refine gs (fun _ => ?_) (fun _ => ?_)) | (with_reducible refine cs_ (fun _ => ?_) (fun _ => ?_)) | (with_reducible refine objQ_i (fun _ _ => ?_); (repeat (with_reducible refine imp_i (fun _ => ?_)))) | ((try with_reducible refine appK_a ?_); first | (with_reducible refine appD_F (by refine ⟨?_, ?_, ?_, ?_⟩ <;> (first | assumption | omega | exact St.has_add (by assumption) | (simp only [ins_has]; exact St.has_add (by assumption)) | (simp only [ins_has, fresh_ins, kill_ins, add_ins] at *; exact St.has_add (by assumption)) | (simp only [*, ins_has, has_full, St.has_add]; done) | (simp [-List.map_take, -List.map_drop, or_imp, forall_and, Seg.a, Vec.a, Leg.a, num, okEl, cells_agg, cells_int, cells_sl, cells_bool, AV.isCell]; done) | (simp; omega))) (fun _ _ => ?_)) | (with_reducible refine appD_V (by refine ⟨?_, ?_, ?_, ?_, ?_⟩ <;> (first | assumption | omega | exact St.has_add (by assumption) | (simp only [ins_has]; exact St.has_add (by assumption)) | (simp only [ins_has, fresh_ins, kill_ins, add_ins] at *; exact St.has_add (by assumption)) | (simp only [*, ins_has, has_full, St.has_add]; done) | (simp [-List.map_take, -List.map_drop, or_imp, forall_and, Seg.a, Vec.a, Leg.a, num, okEl, cells_agg, cells_int, cells_sl, cells_bool, AV.isCell]; done) | (simp; omega))) (fun _ _ => ?_))) | (with_reducible refine freshQ_i (fun _ _ => ?_)) | (with_reducible refine nilQ_i (fun _ _ => ?_)) | (with_reducible first | refine callH_use (hany) ?_ | refine pureQ_use (hany) ?_) | (with_reducible first | refine callH_use (hf) ?_ | refine pureQ_use (hf) ?_)))
  · rename_i h
    have ha : xs.all inSeg = true := by
      rw [List.all_eq_true]; intro x hx
      have := List.any_eq_false.1 h x hx
      simpa using this
    exact ⟨st, St.le.refl _, .no, by unfold ofF; rw [if_pos ha]; rfl, rfl⟩
  · rename_i h
    have ha : ¬ xs.all inSeg = true := by
      rw [List.all_eq_true]; intro h2
      obtain ⟨x, hx, h3⟩ := List.any_eq_true.1 h
      rw [h2 x hx] at h3; cases h3
    exact ⟨st, St.le.refl _, .full, by unfold ofF; rw [if_neg ha]; rfl, rfl⟩
end Go.Proofs.Ytddbnncimggogaa.V
end
section
set_option linter.unusedSimpArgs false
set_option linter.unusedVariables false
/- (calc.joint).made. -/
namespace Go.Proofs.Ytddbnncimggogaa.V
open Go Go.Proofs
set_option maxRecDepth 100000
set_option maxHeartbeats 4000000
theorem both_c (f g : List Seg) (t t' : Tok) (st : St) {Z : Im} : VCalls Try.prog Z 77 [.sl (f.map Seg.a) t, .sl (g.map Seg.a) t'] st
    (fun v s => ∃ b2 b3, st.objs b2 = none ∧ st.objs b3 = none ∧ ¬ b2 = b3 ∧ v = .clo 121 [] [.ptr b2 0, .ptr b3 0] ∧ s = (st.ins b2 (.cells [.sl (f.map Seg.a) t])).ins b3 (.cells [.sl (g.map Seg.a) t'])) := by
  refine VCalls.of v_calc_both_ok (Nat.le_of_ble_eq_true rfl) ?_
  simp only [v_calc_both, ↓vD, vU, VE.ev, VE.evs, retvs, tupOf, grab, vfill, vbsl, eqCells, eqCell, veqs, veqs1, vmnx, AV.isCell, AV.isUndef, Nat.reduceEqDiff, Nat.reduceAdd, Nat.reduceSub, Nat.reduceLeDiff, Nat.reduceLT, reduceIte, reduceCtorEq, Nat.reduceBEq, k_app, k_slc1]
  (repeat' (first | (simp (config := { maxDischargeDepth := 16 }) only [*, vX, Int.reduceLE, Int.reduceLT, Int.reduceGE, Int.reduceGT, Int.reduceBEq, Int.reduceBNe, Int.reduceAdd, Int.reduceSub, Int.reduceMul, Int.reduceNeg, ↓vD, vU, VE.ev, VE.evs, retvs, tupOf, grab, vfill, vbsl, eqCells, eqCell, veqs, veqs1, vmnx, AV.isCell, AV.isUndef, Nat.reduceEqDiff, Nat.reduceAdd, Nat.reduceSub, Nat.reduceLeDiff, Nat.reduceLT, reduceIte, reduceCtorEq, Nat.reduceBEq]) | (simp (disch := first | assumption | omega | exact Seg.len _ | exact Vec.len _ | exact Leg.len _ | exact num_len _ | exact rowA_len _ | exact rowA_len | exact rowT_len _ | exact rowT_len | exact Seg.len | exact Vec.len | exact Leg.len | exact num_len | exact AV.slen _ _ | rfl) only [vP]) | (with_reducible (first | refine gsnd (fun _ => ?_) (fun _ => ?_) | refine csnd (fun _ => ?_) (fun _ => ?_) | refine gsd (fun _ => ?_) (fun _ => ?_) | refine csd (fun _ => ?_) (fun _ => ?_) | refine gsn (fun _ => ?_) (fun _ => ?_) | refine csn (fun _ => ?_) (fun _ => ?_))) | (with_reducible refine gs (fun _ => ?_) (fun _ => ?_)) | (with_reducible refine cs_ (fun _ => ?_) (fun _ => ?_)) | (with_reducible refine objQ_i (fun _ _ => ?_); (repeat (with_reducible refine imp_i (fun _ => ?_)))) | ((try with_reducible refine appK_a ?_); first | (with_reducible refine appD_F (by refine ⟨?_, ?_, ?_, ?_⟩ <;> (first | assumption | omega | exact St.has_add (by assumption) | (simp only [ins_has]; exact St.has_add (by assumption)) | (simp only [ins_has, fresh_ins, kill_ins, add_ins] at *; exact St.has_add (by assumption)) | (simp only [*, ins_has, has_full, St.has_add]; done) | (simp [-List.map_take, -List.map_drop, or_imp, forall_and, Seg.a, Vec.a, Leg.a, num, okEl, cells_agg, cells_int, cells_sl, cells_bool, AV.isCell]; done) | (simp; omega))) (fun _ _ => ?_)) | (with_reducible refine appD_V (by refine ⟨?_, ?_, ?_, ?_, ?_⟩ <;> (first | assumption | omega | exact St.has_add (by assumption) | (simp only [ins_has]; exact St.has_add (by assumption)) | (simp only [ins_has, fresh_ins, kill_ins, add_ins] at *; exact St.has_add (by assumption)) | (simp only [*, ins_has, has_full, St.has_add]; done) | (simp [-List.map_take, -List.map_drop, or_imp, forall_and, Seg.a, Vec.a, Leg.a, num, okEl, cells_agg, cells_int, cells_sl, cells_bool, AV.isCell]; done) | (simp; omega))) (fun _ _ => ?_))) | (with_reducible refine freshQ_i (fun _ _ => ?_)) | (with_reducible refine nilQ_i (fun _ _ => ?_))))
  rename_i b2 h2 b3 h3 n1 n2
  exact ⟨_, St.le.refl _, b2, b3, h2, h3, n2, rfl, rfl⟩
def rawJ (jf : Vec → Vec → Vec × Int) : List (Int × Vec × Vec) → List Seg → List Seg × Int
  | [], acc => (acc, 0)
  | it :: r, acc => if (jf it.2.1 it.2.2).2 = 0 then rawJ jf r (acc ++ [⟨it.1, (jf it.2.1 it.2.2).1⟩]) else ([], (jf it.2.1 it.2.2).2)
def madeF (jf : Vec → Vec → Vec × Int) (f g : List Seg) : List Seg × Int := if mayF f && mayF g then (if (rawJ jf (bothF f g v0 v0) []).2 = 0 then ofF (rawJ jf (bothF f g v0 v0) []).1 else ([], (rawJ jf (bothF f g v0 v0) []).2)) else ([], 5)
theorem rawJ_drop (jf : Vec → Vec → Vec × Int) (L : List (Int × Vec × Vec)) (k : Nat) (hk : k < L.length) (acc : List Seg) : rawJ jf (L.drop k) acc = if (jf L[k].2.1 L[k].2.2).2 = 0 then rawJ jf (L.drop (k + 1)) (acc ++ [⟨L[k].1, (jf L[k].2.1 L[k].2.2).1⟩]) else ([], (jf L[k].2.1 L[k].2.2).2) := by
  rw [List.drop_eq_getElem_cons hk]; rfl
theorem bothF_len : ∀ (f g : List Seg) (a b : Vec), (bothF f g a b).length ≤ f.length + g.length
  | [], [], _, _ => by rw [bothF]; simp
  | x :: f, [], _, b => by rw [bothF]; have := bothF_len f [] x.v b; simp at *; omega
  | [], y :: g, a, _ => by rw [bothF]; have := bothF_len [] g a y.v; simp at *; omega
  | x :: f, y :: g, a, b => by
    rw [bothF]
    have h1 := bothF_len f (y :: g) x.v b
    have h2 := bothF_len (x :: f) g a y.v
    have h3 := bothF_len f g x.v y.v
    simp at h1 h2 h3 ⊢
    split
    · simp; omega
    · split <;> simp <;> omega
termination_by f g => f.length + g.length
def MS (b3 b6 b7 b8 D l : Nat) (jv o6 o7 o8 : AV) (ol : AObj) (W : St) : St := (((((W.ins b3 (.cells [jv])).ins b6 (.cells [o6])).ins b7 (.cells [o7])).ins b8 (.cells [o8])).ins D dobj).ins l ol
theorem MS_none {b3 b6 b7 b8 D l : Nat} {jv o6 o7 o8 p6 p7 p8 : AV} {ol pl : AObj} {W V : St} (hW : W.objs = V.objs) {i : Nat} (h : (MS b3 b6 b7 b8 D l jv o6 o7 o8 ol V).objs i = none) : (MS b3 b6 b7 b8 D l jv p6 p7 p8 pl W).objs i = none := by
  simp only [MS, ins_objs, ite_some_none] at h ⊢
  rw [hW]; exact h
theorem argsFr2_t (p q : Nat) (a b : AV) (fr : Fr) (i : Nat) : (argsFr [p, q] [a, b] fr).t i = if i = q then b else if i = p then a else fr.t i := rfl
theorem argsFr2_d (p q : Nat) (a b : AV) (fr : Fr) : (argsFr [p, q] [a, b] fr).d = [] := rfl
theorem made_c (jv : AV) (jf : Vec → Vec → Vec × Int) (hj : Joint jv jf) (f g : List Seg) (hf : f.length ≤ 1000000) (hg : g.length ≤ 1000000) (t t' : Tok) : VPure Try.prog 65 [.agg [jv], .sl (f.map Seg.a) t, .sl (g.map Seg.a) t'] (.tup [.sl ((madeF jf f g).1.map Seg.a) .no, num (madeF jf f g).2]) := by
  refine VPure.tokT (fun Z st => ?_)
  obtain ⟨jg, fs, cs, rfl, hjf⟩ := hj
  have hmay := may2_c f g hf hg .full t t'
  have hbl := bothF_len f g v0 v0
  obtain ⟨L, hL⟩ : ∃ L, bothF f g v0 v0 = L := ⟨_, rfl⟩
  have HM : Hid (madeF jf f g = if mayF f && mayF g then (if (rawJ jf L []).2 = 0 then ofF (rawJ jf L []).1 else ([], (rawJ jf L []).2)) else ([], 5)) := ⟨by unfold madeF; rw [hL]⟩
  have HJ := Hid.mk hjf
  have HL := Hid.mk (And.intro hL hbl)
  clear hL hbl hjf
  refine VCalls.of v_calc_joint_made_ok (Nat.le_of_ble_eq_true rfl) ?_
  simp only [v_calc_joint_made, ↓vD, vU, VE.ev, VE.evs, retvs, tupOf, grab, vfill, vbsl, eqCells, eqCell, veqs, veqs1, vmnx, AV.isCell, AV.isUndef, Nat.reduceEqDiff, Nat.reduceAdd, Nat.reduceSub, Nat.reduceLeDiff, Nat.reduceLT, reduceIte, reduceCtorEq, Nat.reduceBEq, k_app, k_slc1]
  (repeat' (first | (simp (config := { maxDischargeDepth := 16 }) only [*, vX, Int.reduceLE, Int.reduceLT, Int.reduceGE, Int.reduceGT, Int.reduceBEq, Int.reduceBNe, Int.reduceAdd, Int.reduceSub, Int.reduceMul, Int.reduceNeg, ↓vD, vU, VE.ev, VE.evs, retvs, tupOf, grab, vfill, vbsl, eqCells, eqCell, veqs, veqs1, vmnx, AV.isCell, AV.isUndef, Nat.reduceEqDiff, Nat.reduceAdd, Nat.reduceSub, Nat.reduceLeDiff, Nat.reduceLT, reduceIte, reduceCtorEq, Nat.reduceBEq]) | (simp (disch := first | assumption | omega | exact Seg.len _ | exact Vec.len _ | exact Leg.len _ | exact num_len _ | exact rowA_len _ | exact rowA_len | exact rowT_len _ | exact rowT_len | exact Seg.len | exact Vec.len | exact Leg.len | exact num_len | exact AV.slen _ _ | rfl) only [vP]) | (with_reducible (first | refine gsnd (fun _ => ?_) (fun _ => ?_) | refine csnd (fun _ => ?_) (fun _ => ?_) | refine gsd (fun _ => ?_) (fun _ => ?_) | refine csd (fun _ => ?_) (fun _ => ?_) | refine gsn (fun _ => ?_) (fun _ => ?_) | refine csn (fun _ => ?_) (fun _ => ?_))) | (with_reducible refine gs (fun _ => ?_) (fun _ => ?_)) | (with_reducible refine cs_ (fun _ => ?_) (fun _ => ?_)) | (with_reducible refine objQ_i (fun _ _ => ?_); (repeat (with_reducible refine imp_i (fun _ => ?_)))) | ((try with_reducible refine appK_a ?_); first | (with_reducible refine appD_F (by refine ⟨?_, ?_, ?_, ?_⟩ <;> (first | assumption | omega | exact St.has_add (by assumption) | (simp only [ins_has]; exact St.has_add (by assumption)) | (simp only [ins_has, fresh_ins, kill_ins, add_ins] at *; exact St.has_add (by assumption)) | (simp only [*, ins_has, has_full, St.has_add]; done) | (simp [-List.map_take, -List.map_drop, or_imp, forall_and, Seg.a, Vec.a, Leg.a, num, okEl, cells_agg, cells_int, cells_sl, cells_bool, AV.isCell]; done) | (simp; omega))) (fun _ _ => ?_)) | (with_reducible refine appD_V (by refine ⟨?_, ?_, ?_, ?_, ?_⟩ <;> (first | assumption | omega | exact St.has_add (by assumption) | (simp only [ins_has]; exact St.has_add (by assumption)) | (simp only [ins_has, fresh_ins, kill_ins, add_ins] at *; exact St.has_add (by assumption)) | (simp only [*, ins_has, has_full, St.has_add]; done) | (simp [-List.map_take, -List.map_drop, or_imp, forall_and, Seg.a, Vec.a, Leg.a, num, okEl, cells_agg, cells_int, cells_sl, cells_bool, AV.isCell]; done) | (simp; omega))) (fun _ _ => ?_))) | (with_reducible refine freshQ_i (fun _ _ => ?_)) | (with_reducible refine nilQ_i (fun _ _ => ?_)) | (with_reducible first | refine callH_use (hmay) ?_ | refine pureQ_use (hmay) ?_)))
  · rename_i b3 h3 b6 h6 n1 n2 b7 h7 n3 n4 n5 n6 hm
    exact ⟨st, by (refine ⟨fun i o e => ?_, fun _ h => h⟩; revert e; simp only [St.ins, St.del, add_objs, kill_objs]; (repeat' split); all_goals (first | exact id | (intros; contradiction) | (intros; subst_vars; contradiction) | (intros; simp_all; done) | (intros; subst_vars; simp_all; done))), .full, by rw [HM.out, hm]; rfl, rfl⟩
  rename_i b3 h3 b6 h6 n63 n36 b7 h7 n73 n37 n76 n67 hm b8 h8 n83 n38 n86 n68 n87 n78
  have HN : Hid (madeF jf f g = if (rawJ jf L []).2 = 0 then ofF (rawJ jf L []).1 else ([], (rawJ jf L []).2)) := ⟨by rw [HM.out, if_pos hm]⟩
  clear HM hmay
  refine callH_then (both_c f g t t' _) ?_
  rintro _ _ ⟨bf, bg, hbf, hbg, nfg, rfl, rfl⟩
  have ngf : ¬ bg = bf := fun e => nfg e.symm
  simp only [ins_objs, ite_some_none] at hbf hbg
  simp only [↓vD, vU, VE.ev, VE.evs, retvs, tupOf, grab, vfill, vbsl, eqCells, eqCell, veqs, veqs1, vmnx, AV.isCell, AV.isUndef, Nat.reduceEqDiff, Nat.reduceAdd, Nat.reduceSub, Nat.reduceLeDiff, Nat.reduceLT, reduceIte, reduceCtorEq, Nat.reduceBEq, k_app, k_slc1]
  refine rng_of (gf := 121) (fs := []) (cs := [.ptr bf 0, .ptr bg 0]) ?_ ?_
  · simp only [↓vD, vU, VE.ev, VE.evs, retvs, tupOf, grab, vfill, vbsl, eqCells, eqCell, veqs, veqs1, vmnx, AV.isCell, AV.isUndef, Nat.reduceEqDiff, Nat.reduceAdd, Nat.reduceSub, Nat.reduceLeDiff, Nat.reduceLT, reduceIte, reduceCtorEq, Nat.reduceBEq, k_app, k_slc1]
  intro Y l D r hzy hl hD nlD hyY
  simp only [ins_objs, ite_some_none] at hl hD
  obtain ⟨ngb8, nb8g, ngb7, nb7g, ngb6, nb6g, ngb3, nb3g, hgn⟩ := hbg
  obtain ⟨nfb8, nb8f, nfb7, nb7f, nfb6, nb6f, nfb3, nb3f, hfn⟩ := hbf
  obtain ⟨nlg, ngl, nlf, nfl, nl8, n8l, nl7, n7l, nl6, n6l, nl3, n3l, hln⟩ := hl
  obtain ⟨nDg, ngD, nDf, nfD, nD8, n8D, nD7, n7D, nD6, n6D, nD3, n3D, hDn⟩ := hD
  have nDl : ¬ D = l := fun e => nlD e.symm
  have hmain := both_it (Y := Y) (l := l) f g t t' bf bg nfg (MS b3 b6 b7 b8 D l (.clo jg fs cs) (.sl [] .full) (.int .i64 0) (.sl [] .full) (lobj r .ready none) st)
    (by simp only [MS, ins_objs, ite_some_none, *, not_false_eq_true, and_self, if_false]) (by simp only [MS, ins_objs, ite_some_none, *, not_false_eq_true, and_self, if_false])
    (fun k S => ∃ acc tk W, S = MS b3 b6 b7 b8 D l (.clo jg fs cs) (.sl [] .full) (.int .i64 0) (.sl (acc.map Seg.a) tk) (lobj r .ready none) W ∧ Ours 3 st W tk ∧ acc.length ≤ k ∧ Hid (rawJ jf (L.drop k) acc = rawJ jf L []))
    (fun S => ∃ o8 tk W e, S = MS b3 b6 b7 b8 D l (.clo jg fs cs) (.sl [] .full) (.int .i64 e) o8 (lobj r .done (some .ret)) W ∧ Ours 3 st W tk ∧ Hid (rawJ jf L [] = ([], e) ∧ e ≠ 0))
    (by rintro k S ⟨acc, tk, W, rfl, ho, _⟩ i hi; exact MS_none ho.objs hi) (by rintro S ⟨o8, tk, W, e, rfl, ho, _⟩ i hi; exact MS_none ho.objs hi)
    ⟨[], .full, st, rfl, Ours.full 3 st, by simp, ⟨rfl⟩⟩ ?_
  rotate_left
  · rw [HL.out.1]
    rintro k hk S b4 o2 o3 o4 ⟨acc, tk, W, rfl, ho, hal, HK⟩ hSf hSg hS4 nf4 ng4
    have n4f : ¬ b4 = bf := fun e => nf4 e.symm
    have n4g : ¬ b4 = bg := fun e => ng4 e.symm
    simp only [MS, ins_objs, ite_some_none] at hS4
    obtain ⟨n4l, nl4, n4D, nD4, n48, n84, n47, n74, n46, n64, n43, n34, hW4⟩ := hS4
    have hWf : W.objs bf = none := by rw [ho.objs]; exact hfn
    have hWg : W.objs bg = none := by rw [ho.objs]; exact hgn
    have hstep := rawJ_drop jf L k hk acc
    obtain ⟨it, hit⟩ : ∃ it, L[k] = it := ⟨_, rfl⟩
    obtain ⟨tt, a, c⟩ := it
    rw [hit] at hstep ⊢
    have hj := HJ.out a c
    obtain ⟨q, hq⟩ : ∃ q, jf a c = q := ⟨_, rfl⟩
    simp only [hq] at hstep hj
    have HS := Hid.mk hstep
    have hts := ho.has
    have hal2 : acc.length ≤ 2000000 := by have := HL.out.2; rw [HL.out.1] at this; omega
    clear hstep hit hq
    refine hyY _ _ _ rfl (by simp only [XS, MS, ins_objs, *, if_true, if_false]) ?_
    rw [XS, MS]
    clear hyY
    (repeat' (first | (simp (config := { maxDischargeDepth := 16 }) only [*, argsFr2_t, argsFr2_d, nowA, qr_normal, qr_ret, qr_exit, vX, Int.reduceLE, Int.reduceLT, Int.reduceGE, Int.reduceGT, Int.reduceBEq, Int.reduceBNe, Int.reduceAdd, Int.reduceSub, Int.reduceMul, Int.reduceNeg, ↓vD, vU, VE.ev, VE.evs, retvs, tupOf, grab, vfill, vbsl, eqCells, eqCell, veqs, veqs1, vmnx, AV.isCell, AV.isUndef, Nat.reduceEqDiff, Nat.reduceAdd, Nat.reduceSub, Nat.reduceLeDiff, Nat.reduceLT, reduceIte, reduceCtorEq, Nat.reduceBEq]) | (simp (disch := first | assumption | omega | exact Seg.len _ | exact Vec.len _ | exact Leg.len _ | exact num_len _ | exact rowA_len _ | exact rowA_len | exact rowT_len _ | exact rowT_len | exact Seg.len | exact Vec.len | exact Leg.len | exact num_len | exact AV.slen _ _ | rfl) only [argsFr2_t, argsFr2_d, nowA, qr_normal, qr_ret, qr_exit, vP]) | (with_reducible (first | refine gsnd (fun _ => ?_) (fun _ => ?_) | refine csnd (fun _ => ?_) (fun _ => ?_) | refine gsd (fun _ => ?_) (fun _ => ?_) | refine csd (fun _ => ?_) (fun _ => ?_) | refine gsn (fun _ => ?_) (fun _ => ?_) | refine csn (fun _ => ?_) (fun _ => ?_))) | (with_reducible refine gs (fun _ => ?_) (fun _ => ?_)) | (with_reducible refine cs_ (fun _ => ?_) (fun _ => ?_)) | (with_reducible refine objQ_i (fun _ _ => ?_); (repeat (with_reducible refine imp_i (fun _ => ?_)))) | ((try with_reducible refine appK_a ?_); first | (with_reducible refine appD_F (by refine ⟨?_, ?_, ?_, ?_⟩ <;> (first | assumption | omega | exact St.has_add (by assumption) | (simp only [ins_has]; exact St.has_add (by assumption)) | (simp only [ins_has, fresh_ins, kill_ins, add_ins] at *; exact St.has_add (by assumption)) | (simp only [*, ins_has, has_full, St.has_add]; done) | (simp [-List.map_take, -List.map_drop, or_imp, forall_and, Seg.a, Vec.a, Leg.a, num, okEl, cells_agg, cells_int, cells_sl, cells_bool, AV.isCell]; done) | (simp; omega))) (fun _ _ => ?_)) | (with_reducible refine appD_V (by refine ⟨?_, ?_, ?_, ?_, ?_⟩ <;> (first | assumption | omega | exact St.has_add (by assumption) | (simp only [ins_has]; exact St.has_add (by assumption)) | (simp only [ins_has, fresh_ins, kill_ins, add_ins] at *; exact St.has_add (by assumption)) | (simp only [*, ins_has, has_full, St.has_add]; done) | (simp [-List.map_take, -List.map_drop, or_imp, forall_and, Seg.a, Vec.a, Leg.a, num, okEl, cells_agg, cells_int, cells_sl, cells_bool, AV.isCell]; done) | (simp; omega))) (fun _ _ => ?_))) | (with_reducible refine freshQ_i (fun _ _ => ?_)) | (with_reducible refine nilQ_i (fun _ _ => ?_)) | (with_reducible first | refine callH_use (hj) ?_ | refine pureQ_use (hj) ?_)))
    · have hc : (q.2 != 0) = true := by assumption
      have hc' : ¬ q.2 = 0 := by simpa using hc
      refine .inr ⟨rfl, MS b3 b6 b7 b8 D l (.clo jg fs cs) (.sl [] .full) (.int .i64 q.2) (.sl (acc.map Seg.a) tk) (lobj r .done (some .ret)) W, ⟨_, tk, W, q.2, rfl, ho, ⟨by rw [← HK.out, HS.out, if_neg hc'], hc'⟩⟩, ?_⟩
      rw [XS, MS]
      (refine leX.start ?_ rfl; (repeat (refine leX.in_ (by simp only [*, ins_objs, if_true, if_false]; first | done | rfl) ?_)); (repeat (first | refine leX.new (by first | assumption | (rw [hob]; assumption)) ?_ | refine leX.old (by (simp only [List.mem_cons, true_or, or_true, eq_self]; done)) ?_)); exact leX.refl _ _)
    · rename_i t1 hf1
      have hc : (q.2 != 0) = false := by assumption
      have hc' : q.2 = 0 := by simpa using hc
      have ho2 := ho.next (by simpa only [kill_ins, fresh_ins] using hf1)
      have hob : ((W.kill tk).add t1).objs = W.objs := by rw [add_objs, kill_objs]
      refine .inl ⟨rfl, MS b3 b6 b7 b8 D l (.clo jg fs cs) (.sl [] .full) (.int .i64 0) (.sl ((acc ++ [(⟨tt, q.1⟩ : Seg)]).map Seg.a) t1) (lobj r .ready none) ((W.kill tk).add t1), ⟨_, t1, _, rfl, ho2, by simp; omega, ⟨by rw [← HK.out, HS.out, if_pos hc']⟩⟩, ?_⟩
      rw [XS, MS]
      simp only [List.map_append, List.map_cons, List.map_nil, Seg.a]
      clear ho2 hf1
      (refine leX.start ?_ rfl; (repeat (refine leX.in_ (by simp only [*, ins_objs, if_true, if_false]; first | done | rfl) ?_)); (repeat (first | refine leX.new (by first | assumption | (rw [hob]; assumption)) ?_ | refine leX.old (by (simp only [List.mem_cons, true_or, or_true, eq_self]; done)) ?_)); exact leX.refl _ _)
  · refine VCalls.st_eq (VCalls.wk hmain ?_) (by rw [MS]; exact (by simp only [St.ins]; congr 1; funext i; (repeat' split) <;> (first | rfl | contradiction | (subst_vars; contradiction) | (subst_vars; rfl))))
    rintro v s ⟨rfl, S', hIE, hle⟩
    refine ⟨_, S', Wk.le hle _, ?_⟩
    clear hmain hle
    rcases hIE with ⟨acc, tk, W, rfl, ho, hal, HK⟩ | ⟨o8, tk, W, e, rfl, ho, HE⟩
    · refine ⟨.ready, none, by simp, by simp [MS, St.ins], ?_⟩
      rw [jq_none, MS]
      rw [HL.out.1, List.drop_length] at HK
      have hal2 : acc.length ≤ 2000000 := by have := HL.out.2; omega
      have hof := Of_v acc (by omega) tk
      have hob := ho.objs
      have hun := ho.under
      clear hyY
      (repeat' (first | (simp (config := { maxDischargeDepth := 16 }) only [*, num, vX, Int.reduceLE, Int.reduceLT, Int.reduceGE, Int.reduceGT, Int.reduceBEq, Int.reduceBNe, Int.reduceAdd, Int.reduceSub, Int.reduceMul, Int.reduceNeg, ↓vD, vU, VE.ev, VE.evs, retvs, tupOf, grab, vfill, vbsl, eqCells, eqCell, veqs, veqs1, vmnx, AV.isCell, AV.isUndef, Nat.reduceEqDiff, Nat.reduceAdd, Nat.reduceSub, Nat.reduceLeDiff, Nat.reduceLT, reduceIte, reduceCtorEq, Nat.reduceBEq]) | (simp (disch := first | assumption | omega | exact Seg.len _ | exact Vec.len _ | exact Leg.len _ | exact num_len _ | exact rowA_len _ | exact rowA_len | exact rowT_len _ | exact rowT_len | exact Seg.len | exact Vec.len | exact Leg.len | exact num_len | exact AV.slen _ _ | rfl) only [num, vP]) | (with_reducible (first | refine gsnd (fun _ => ?_) (fun _ => ?_) | refine csnd (fun _ => ?_) (fun _ => ?_) | refine gsd (fun _ => ?_) (fun _ => ?_) | refine csd (fun _ => ?_) (fun _ => ?_) | refine gsn (fun _ => ?_) (fun _ => ?_) | refine csn (fun _ => ?_) (fun _ => ?_))) | (with_reducible refine gs (fun _ => ?_) (fun _ => ?_)) | (with_reducible refine cs_ (fun _ => ?_) (fun _ => ?_)) | (with_reducible refine objQ_i (fun _ _ => ?_); (repeat (with_reducible refine imp_i (fun _ => ?_)))) | ((try with_reducible refine appK_a ?_); first | (with_reducible refine appD_F (by refine ⟨?_, ?_, ?_, ?_⟩ <;> (first | assumption | omega | exact St.has_add (by assumption) | (simp only [ins_has]; exact St.has_add (by assumption)) | (simp only [ins_has, fresh_ins, kill_ins, add_ins] at *; exact St.has_add (by assumption)) | (simp only [*, ins_has, has_full, St.has_add]; done) | (simp [-List.map_take, -List.map_drop, or_imp, forall_and, Seg.a, Vec.a, Leg.a, num, okEl, cells_agg, cells_int, cells_sl, cells_bool, AV.isCell]; done) | (simp; omega))) (fun _ _ => ?_)) | (with_reducible refine appD_V (by refine ⟨?_, ?_, ?_, ?_, ?_⟩ <;> (first | assumption | omega | exact St.has_add (by assumption) | (simp only [ins_has]; exact St.has_add (by assumption)) | (simp only [ins_has, fresh_ins, kill_ins, add_ins] at *; exact St.has_add (by assumption)) | (simp only [*, ins_has, has_full, St.has_add]; done) | (simp [-List.map_take, -List.map_drop, or_imp, forall_and, Seg.a, Vec.a, Leg.a, num, okEl, cells_agg, cells_int, cells_sl, cells_bool, AV.isCell]; done) | (simp; omega))) (fun _ _ => ?_))) | (with_reducible refine freshQ_i (fun _ _ => ?_)) | (with_reducible refine nilQ_i (fun _ _ => ?_)) | (with_reducible first | refine callH_use (hof) ?_ | refine pureQ_use (hof) ?_)))
      have hr : rawJ jf L [] = (acc, 0) := HK.out.symm
      have hm : madeF jf f g = ofF acc := by rw [HN.out, hr]; rfl
      refine ⟨_, st, rfl, ?_, by simp, ?_, .no, by rw [hm]; rfl, rfl⟩
      · intro D' hD'
        have : D' = D := by simpa using hD'
        subst this
        exact ⟨by simp only [*, ins_objs, if_true, if_false], hDn⟩
      · refine hun.trans ?_
        (refine leX.start ?_ rfl; (repeat (refine leX.in_ (by simp only [*, ins_objs, if_true, if_false]; first | done | rfl) ?_)); (repeat (first | refine leX.new (by first | assumption | (rw [hob]; assumption)) ?_ | refine leX.old (by (simp only [List.mem_cons, true_or, or_true, eq_self]; done)) ?_)); exact leX.refl _ _)
    · refine ⟨.done, some .ret, by simp, by simp [MS, St.ins], ?_⟩
      rw [jq_ret, MS]
      have hob := ho.objs
      have hun := ho.under
      clear hyY
      (repeat' (first | (simp (config := { maxDischargeDepth := 16 }) only [*, vX, Int.reduceLE, Int.reduceLT, Int.reduceGE, Int.reduceGT, Int.reduceBEq, Int.reduceBNe, Int.reduceAdd, Int.reduceSub, Int.reduceMul, Int.reduceNeg, ↓vD, vU, VE.ev, VE.evs, retvs, tupOf, grab, vfill, vbsl, eqCells, eqCell, veqs, veqs1, vmnx, AV.isCell, AV.isUndef, Nat.reduceEqDiff, Nat.reduceAdd, Nat.reduceSub, Nat.reduceLeDiff, Nat.reduceLT, reduceIte, reduceCtorEq, Nat.reduceBEq]) | (simp (disch := first | assumption | omega | exact Seg.len _ | exact Vec.len _ | exact Leg.len _ | exact num_len _ | exact rowA_len _ | exact rowA_len | exact rowT_len _ | exact rowT_len | exact Seg.len | exact Vec.len | exact Leg.len | exact num_len | exact AV.slen _ _ | rfl) only [vP]) | (with_reducible (first | refine gsnd (fun _ => ?_) (fun _ => ?_) | refine csnd (fun _ => ?_) (fun _ => ?_) | refine gsd (fun _ => ?_) (fun _ => ?_) | refine csd (fun _ => ?_) (fun _ => ?_) | refine gsn (fun _ => ?_) (fun _ => ?_) | refine csn (fun _ => ?_) (fun _ => ?_))) | (with_reducible refine gs (fun _ => ?_) (fun _ => ?_)) | (with_reducible refine cs_ (fun _ => ?_) (fun _ => ?_)) | (with_reducible refine objQ_i (fun _ _ => ?_); (repeat (with_reducible refine imp_i (fun _ => ?_)))) | ((try with_reducible refine appK_a ?_); first | (with_reducible refine appD_F (by refine ⟨?_, ?_, ?_, ?_⟩ <;> (first | assumption | omega | exact St.has_add (by assumption) | (simp only [ins_has]; exact St.has_add (by assumption)) | (simp only [ins_has, fresh_ins, kill_ins, add_ins] at *; exact St.has_add (by assumption)) | (simp only [*, ins_has, has_full, St.has_add]; done) | (simp [-List.map_take, -List.map_drop, or_imp, forall_and, Seg.a, Vec.a, Leg.a, num, okEl, cells_agg, cells_int, cells_sl, cells_bool, AV.isCell]; done) | (simp; omega))) (fun _ _ => ?_)) | (with_reducible refine appD_V (by refine ⟨?_, ?_, ?_, ?_, ?_⟩ <;> (first | assumption | omega | exact St.has_add (by assumption) | (simp only [ins_has]; exact St.has_add (by assumption)) | (simp only [ins_has, fresh_ins, kill_ins, add_ins] at *; exact St.has_add (by assumption)) | (simp only [*, ins_has, has_full, St.has_add]; done) | (simp [-List.map_take, -List.map_drop, or_imp, forall_and, Seg.a, Vec.a, Leg.a, num, okEl, cells_agg, cells_int, cells_sl, cells_bool, AV.isCell]; done) | (simp; omega))) (fun _ _ => ?_))) | (with_reducible refine freshQ_i (fun _ _ => ?_)) | (with_reducible refine nilQ_i (fun _ _ => ?_))))
      have hm : madeF jf f g = ([], e) := by rw [HN.out, HE.out.1, if_neg HE.out.2]
      refine ⟨_, st, rfl, ?_, by simp, ?_, .full, by rw [hm]; rfl, rfl⟩
      · intro D' hD'
        have : D' = D := by simpa using hD'
        subst this
        exact ⟨by simp only [*, ins_objs, if_true, if_false], hDn⟩
      · refine hun.trans ?_
        (refine leX.start ?_ rfl; (repeat (refine leX.in_ (by simp only [*, ins_objs, if_true, if_false]; first | done | rfl) ?_)); (repeat (first | refine leX.new (by first | assumption | (rw [hob]; assumption)) ?_ | refine leX.old (by (simp only [List.mem_cons, true_or, or_true, eq_self]; done)) ?_)); exact leX.refl _ _)
end Go.Proofs.Ytddbnncimggogaa.V
end
section
set_option linter.unusedSimpArgs false
set_option linter.unusedVariables false
/- calc: Sub, Min, Max, Range, Add. -/
namespace Go.Proofs.Ytddbnncimggogaa.V
open Go Go.Proofs
set_option maxRecDepth 100000
set_option maxHeartbeats 4000000
theorem Max_c (f g : List Seg) (hf : f.length ≤ 1000000) (hg : g.length ≤ 1000000) (t t' : Tok) : VPure Try.prog 36 [.sl (f.map Seg.a) t, .sl (g.map Seg.a) t'] (.tup [.sl ((madeF (fun a b => (maxV a b, 0)) f g).1.map Seg.a) .no, num (madeF (fun a b => (maxV a b, 0)) f g).2]) := by
  refine VPure.of v_calc_Max_ok (Nat.le_of_ble_eq_true rfl) (fun Z st => ?_)
  have h := made_c _ _ max_joint f g hf hg t t'
  simp only [v_calc_Max, ↓vD, vU, VE.ev, VE.evs, retvs, tupOf, grab, vfill, vbsl, eqCells, eqCell, veqs, veqs1, vmnx, AV.isCell, AV.isUndef, Nat.reduceEqDiff, Nat.reduceAdd, Nat.reduceSub, Nat.reduceLeDiff, Nat.reduceLT, reduceIte, reduceCtorEq, Nat.reduceBEq, k_app, k_slc1]
  (repeat' (first | (simp (config := { maxDischargeDepth := 16 }) only [*, num, vX, Int.reduceLE, Int.reduceLT, Int.reduceGE, Int.reduceGT, Int.reduceBEq, Int.reduceBNe, Int.reduceAdd, Int.reduceSub, Int.reduceMul, Int.reduceNeg, ↓vD, vU, VE.ev, VE.evs, retvs, tupOf, grab, vfill, vbsl, eqCells, eqCell, veqs, veqs1, vmnx, AV.isCell, AV.isUndef, Nat.reduceEqDiff, Nat.reduceAdd, Nat.reduceSub, Nat.reduceLeDiff, Nat.reduceLT, reduceIte, reduceCtorEq, Nat.reduceBEq]) | (simp (disch := first | assumption | omega | exact Seg.len _ | exact Vec.len _ | exact Leg.len _ | exact num_len _ | exact rowA_len _ | exact rowA_len | exact rowT_len _ | exact rowT_len | exact Seg.len | exact Vec.len | exact Leg.len | exact num_len | exact AV.slen _ _ | rfl) only [num, vP]) | (with_reducible (first | refine gsnd (fun _ => ?_) (fun _ => ?_) | refine csnd (fun _ => ?_) (fun _ => ?_) | refine gsd (fun _ => ?_) (fun _ => ?_) | refine csd (fun _ => ?_) (fun _ => ?_) | refine gsn (fun _ => ?_) (fun _ => ?_) | refine csn (fun _ => ?_) (fun _ => ?_))) | (with_reducible refine gs (fun _ => ?_) (fun _ => ?_)) | (with_reducible refine cs_ (fun _ => ?_) (fun _ => ?_)) | (with_reducible refine objQ_i (fun _ _ => ?_); (repeat (with_reducible refine imp_i (fun _ => ?_)))) | ((try with_reducible refine appK_a ?_); first | (with_reducible refine appD_F (by refine ⟨?_, ?_, ?_, ?_⟩ <;> (first | assumption | omega | exact St.has_add (by assumption) | (simp only [ins_has]; exact St.has_add (by assumption)) | (simp only [ins_has, fresh_ins, kill_ins, add_ins] at *; exact St.has_add (by assumption)) | (simp only [*, ins_has, has_full, St.has_add]; done) | (simp [-List.map_take, -List.map_drop, or_imp, forall_and, Seg.a, Vec.a, Leg.a, num, okEl, cells_agg, cells_int, cells_sl, cells_bool, AV.isCell]; done) | (simp; omega))) (fun _ _ => ?_)) | (with_reducible refine appD_V (by refine ⟨?_, ?_, ?_, ?_, ?_⟩ <;> (first | assumption | omega | exact St.has_add (by assumption) | (simp only [ins_has]; exact St.has_add (by assumption)) | (simp only [ins_has, fresh_ins, kill_ins, add_ins] at *; exact St.has_add (by assumption)) | (simp only [*, ins_has, has_full, St.has_add]; done) | (simp [-List.map_take, -List.map_drop, or_imp, forall_and, Seg.a, Vec.a, Leg.a, num, okEl, cells_agg, cells_int, cells_sl, cells_bool, AV.isCell]; done) | (simp; omega))) (fun _ _ => ?_))) | (with_reducible refine freshQ_i (fun _ _ => ?_)) | (with_reducible refine nilQ_i (fun _ _ => ?_)) | (with_reducible first | refine callH_use (plain_c _) ?_ | refine pureQ_use (plain_c _) ?_) | (with_reducible first | refine callH_use (h) ?_ | refine pureQ_use (h) ?_)))
end Go.Proofs.Ytddbnncimggogaa.V
end
section
set_option linter.unusedSimpArgs false
set_option linter.unusedVariables false
/- liveryref03.LE. -/
namespace Go.Proofs.Ytddbnncimggogaa.V
open Go Go.Proofs
set_option maxRecDepth 100000
set_option maxHeartbeats 4000000
end Go.Proofs.Ytddbnncimggogaa.V
end
section
set_option linter.unusedSimpArgs false
set_option linter.unusedVariables false
/- calc.LE. -/
namespace Go.Proofs.Ytddbnncimggogaa.V
open Go Go.Proofs
set_option maxRecDepth 100000
set_option maxHeartbeats 4000000
end Go.Proofs.Ytddbnncimggogaa.V
end
section
set_option linter.unusedSimpArgs false
set_option linter.unusedVariables false
/- What calc's functions mean: plain. -/
namespace Go.Proofs.Ytddbnncimggogaa.V
open Go Go.Proofs Go.Proofs.Ytddbnncimggogaa.SP
/-! ### Rising rows of times -/
theorem up_unique : ∀ (l m : List Int), l.Pairwise (· < ·) → m.Pairwise (· < ·) → (∀ x, x ∈ l ↔ x ∈ m) → l = m
  | [], [], _, _, _ => rfl
  | [], y :: m, _, _, h => absurd ((h y).2 (by simp)) (by simp)
  | x :: l, [], _, _, h => absurd ((h x).1 (by simp)) (by simp)
  | x :: l, y :: m, hl, hm, h => by
    have h1 := List.pairwise_cons.1 hl
    have h2 := List.pairwise_cons.1 hm
    have hxy : x = y := by
      have a := (h x).1 (by simp)
      have b := (h y).2 (by simp)
      rcases List.mem_cons.1 a with a | a
      · exact a
      · rcases List.mem_cons.1 b with b | b
        · exact b.symm
        · have := h1.1 y b; have := h2.1 x a; omega
    subst hxy
    congr 1
    refine up_unique l m h1.2 h2.2 (fun z => ⟨fun hz => ?_, fun hz => ?_⟩)
    · rcases List.mem_cons.1 ((h z).1 (by simp [hz])) with e | e
      · have := h1.1 z hz; omega
      · exact e
    · rcases List.mem_cons.1 ((h z).2 (by simp [hz])) with e | e
      · have := h2.1 z hz; omega
      · exact e
def insR : List Int → Int → List Int
  | [], x => [x]
  | y :: l, x => if y < x then y :: insR l x else if y = x then y :: l else x :: y :: l
theorem insT_R : ∀ (l : List Int) (x : Int), insT l x = insR l x
  | [], x => by simp [insT, insR, cntT]
  | y :: l, x => by
    have ih := insT_R l x
    unfold insT at ih
    unfold insT insR cntT
    by_cases h : y < x
    · rw [if_pos h, if_pos h]
      simp only [List.getElem?_cons_succ, List.take_succ_cons, List.drop_succ_cons, List.cons_append]
      rw [← ih]
      split <;> rfl
    · rw [if_neg h, if_neg h]
      by_cases h2 : y = x
      · simp [h2]
      · simp [h2]
theorem mem_insR : ∀ (l : List Int) (x z : Int), z ∈ insR l x ↔ z = x ∨ z ∈ l
  | [], x, z => by simp [insR]
  | y :: l, x, z => by
    unfold insR
    split
    · simp only [List.mem_cons, mem_insR l x z]; grind
    · split <;> simp only [List.mem_cons] <;> grind
theorem up_insR : ∀ (l : List Int) (x : Int), l.Pairwise (· < ·) → (insR l x).Pairwise (· < ·)
  | [], x, _ => by simp [insR]
  | y :: l, x, h => by
    have hy := List.pairwise_cons.1 h
    unfold insR
    split
    · rename_i h1
      refine List.pairwise_cons.2 ⟨fun z hz => ?_, up_insR l x hy.2⟩
      rcases (mem_insR l x z).1 hz with rfl | hz
      · exact h1
      · exact hy.1 z hz
    · split
      · exact h
      · refine List.pairwise_cons.2 ⟨fun z hz => ?_, h⟩
        rcases List.mem_cons.1 hz with rfl | hz
        · omega
        · have := hy.1 z hz; omega
theorem times_fold : ∀ (l acc : List Int), acc.Pairwise (· < ·) → (l.foldl insT acc).Pairwise (· < ·) ∧ ∀ z, z ∈ l.foldl insT acc ↔ z ∈ acc ∨ z ∈ l
  | [], acc, h => ⟨h, by simp⟩
  | x :: l, acc, h => by
    have h1 : (insT acc x).Pairwise (· < ·) := by rw [insT_R]; exact up_insR acc x h
    obtain ⟨a, b⟩ := times_fold l (insT acc x) h1
    refine ⟨a, fun z => ?_⟩
    rw [List.foldl_cons, b z, insT_R, mem_insR, List.mem_cons]
    grind
theorem timesF_up (l : List Int) : (timesF l).Pairwise (· < ·) := (times_fold l [] List.Pairwise.nil).1
theorem mem_timesF (l : List Int) (z : Int) : z ∈ timesF l ↔ z ∈ l := by
  have := (times_fold l [] List.Pairwise.nil).2 z
  simpa [timesF] using this
/-! ### What may be -/
def mayL : List Seg → Vec → Int → Bool
  | [], _, _ => true
  | x :: r, l, a => !odd l a x && mayL r x.v x.t
def oddG (l : Vec) (a : Int) (xs : List Seg) (k : Nat) : Bool := (xs[k]?.map (odd (if k = 0 then l else (xs[k - 1]?.map (·.v)).getD v0) (if k = 0 then a else (xs[k - 1]?.map (·.t)).getD 0))).getD false
theorem mayL_any : ∀ (xs : List Seg) (l : Vec) (a : Int), (List.range xs.length).any (oddG l a xs) = !mayL xs l a
  | [], l, a => rfl
  | x :: r, l, a => by
    have ih := mayL_any r x.v x.t
    rw [List.length_cons, List.range_succ_eq_map, List.any_cons, List.any_map]
    have e : (oddG l a (x :: r)) ∘ Nat.succ = oddG x.v x.t r := by
      funext k
      cases k with
      | zero => simp [oddG]
      | succ k => simp [oddG]
    rw [e, ih]
    simp [oddG, mayL]
theorem mayF_L (xs : List Seg) : mayF xs = mayL xs v0 (-1125899906842625) := by
  have h := mayL_any xs v0 (-1125899906842625)
  have e : oddI xs = oddG v0 (-1125899906842625) xs := by funext k; rfl
  unfold mayF
  rw [e, h]; simp
theorem mayL_iff : ∀ (xs : List Seg) (l : Vec) (a : Int), mayL xs l a = true ↔ Canon xs l ∧ (∀ x ∈ xs, inSeg x = true) ∧ ∀ x ∈ xs, a < x.t
  | [], l, a => by simp [mayL, Canon]
  | x :: r, l, a => by
    rw [mayL, Bool.and_eq_true, mayL_iff r x.v x.t, Canon]
    have ho : (!odd l a x) = true ↔ inSeg x = true ∧ ¬ x.v = l ∧ a < x.t := by
      unfold odd
      simp only [Bool.not_eq_true', Bool.or_eq_false_iff, beq_eq_false_iff_ne, ne_eq, decide_eq_false_iff_not, Bool.not_eq_false']
      constructor
      · rintro ⟨⟨h1, h2⟩, h3⟩; exact ⟨h1, h2, by omega⟩
      · rintro ⟨h1, h2, h3⟩; exact ⟨⟨h1, h2⟩, by omega⟩
    rw [ho]
    constructor
    · rintro ⟨⟨h1, h2, h3⟩, h4, h5, h6⟩
      refine ⟨⟨h2, h6, h4⟩, fun y hy => ?_, fun y hy => ?_⟩
      · rcases List.mem_cons.1 hy with rfl | hy
        · exact h1
        · exact h5 y hy
      · rcases List.mem_cons.1 hy with rfl | hy
        · exact h3
        · have := h6 y hy; omega
    · rintro ⟨⟨h2, h6, h4⟩, h5, h7⟩
      exact ⟨⟨h5 x (by simp), h2, h7 x (by simp)⟩, h4, fun y hy => h5 y (by simp [hy]), h6⟩
theorem mayF_iff (xs : List Seg) : mayF xs = true ↔ Canon xs v0 ∧ ∀ x ∈ xs, inSeg x = true := by
  rw [mayF_L, mayL_iff]
  refine ⟨fun h => ⟨h.1, h.2.1⟩, fun h => ⟨h.1, h.2, fun x hx => ?_⟩⟩
  have := h.2 x hx
  unfold inSeg inR at this
  simp only [Bool.and_eq_true, decide_eq_true_eq] at this
  omega
theorem Canon.up : ∀ {xs : List Seg} {l : Vec}, Canon xs l → (xs.map (·.t)).Pairwise (· < ·)
  | [], _, _ => List.Pairwise.nil
  | x :: r, l, h => by
    rw [List.map_cons, List.pairwise_cons]
    refine ⟨fun z hz => ?_, h.2.2.up⟩
    obtain ⟨y, hy, rfl⟩ := List.mem_map.1 hz
    exact h.2.1 y hy
/-! ### Both at once -/
theorem atF_P (xs : List Seg) (t : Int) : atF xs t = atP v0 xs t := rfl
theorem both_spec : ∀ (f g : List Seg) (a b : Vec), (f.map (·.t)).Pairwise (· < ·) → (g.map (·.t)).Pairwise (· < ·) →
    ((bothF f g a b).map (·.1)).Pairwise (· < ·) ∧ (∀ t, t ∈ (bothF f g a b).map (·.1) ↔ t ∈ f.map (·.t) ∨ t ∈ g.map (·.t)) ∧ ∀ it ∈ bothF f g a b, it.2.1 = atP a f it.1 ∧ it.2.2 = atP b g it.1
  | [], [], a, b, _, _ => by rw [bothF]; simp
  | x :: f, [], a, b, hf, hg => by
    rw [List.map_cons, List.pairwise_cons] at hf
    obtain ⟨h1, h2, h3⟩ := both_spec f [] x.v b hf.2 hg
    have hlt : ∀ t ∈ (bothF f [] x.v b).map (·.1), x.t < t := fun t ht => hf.1 t (by rcases (h2 t).1 ht with h | h; exact h; simp at h)
    rw [bothF]
    refine ⟨by rw [List.map_cons, List.pairwise_cons]; exact ⟨hlt, h1⟩, fun t => ?_, fun it hit => ?_⟩
    · rw [List.map_cons, List.mem_cons, h2 t]; simp
    · rcases List.mem_cons.1 hit with rfl | hit
      · refine ⟨?_, rfl⟩
        rw [atP_cons _ _ _ _ (Int.le_refl _), atP_late _ _ _ (fun z hz => hf.1 z.t (List.mem_map.2 ⟨z, hz, rfl⟩))]
      · have hl := hlt it.1 (List.mem_map.2 ⟨it, hit, rfl⟩)
        rw [atP_cons _ _ _ _ (by omega)]
        exact h3 it hit
  | [], y :: g, a, b, hf, hg => by
    rw [List.map_cons, List.pairwise_cons] at hg
    obtain ⟨h1, h2, h3⟩ := both_spec [] g a y.v hf hg.2
    have hlt : ∀ t ∈ (bothF [] g a y.v).map (·.1), y.t < t := fun t ht => hg.1 t (by rcases (h2 t).1 ht with h | h; simp at h; exact h)
    rw [bothF]
    refine ⟨by rw [List.map_cons, List.pairwise_cons]; exact ⟨hlt, h1⟩, fun t => ?_, fun it hit => ?_⟩
    · rw [List.map_cons, List.mem_cons, h2 t]; simp
    · rcases List.mem_cons.1 hit with rfl | hit
      · refine ⟨rfl, ?_⟩
        rw [atP_cons _ _ _ _ (Int.le_refl _), atP_late _ _ _ (fun z hz => hg.1 z.t (List.mem_map.2 ⟨z, hz, rfl⟩))]
      · have hl := hlt it.1 (List.mem_map.2 ⟨it, hit, rfl⟩)
        rw [atP_cons b _ _ _ (by omega)]
        exact h3 it hit
  | x :: f, y :: g, a, b, hf, hg => by
    have hf' := hf; have hg' := hg
    rw [List.map_cons, List.pairwise_cons] at hf hg
    have lateF : ∀ t, t ≤ x.t → ∀ z ∈ f, t < z.t := fun t ht z hz => by have := hf.1 z.t (List.mem_map.2 ⟨z, hz, rfl⟩); omega
    have lateG : ∀ t, t ≤ y.t → ∀ z ∈ g, t < z.t := fun t ht z hz => by have := hg.1 z.t (List.mem_map.2 ⟨z, hz, rfl⟩); omega
    rw [bothF]
    split
    · rename_i c
      obtain ⟨h1, h2, h3⟩ := both_spec f (y :: g) x.v b hf.2 hg'
      have hlt : ∀ t ∈ (bothF f (y :: g) x.v b).map (·.1), x.t < t := fun t ht => by
        rcases (h2 t).1 ht with h | h
        · exact hf.1 t h
        · rw [List.map_cons, List.mem_cons] at h
          rcases h with rfl | h
          · exact c
          · have := hg.1 t h; omega
      refine ⟨by rw [List.map_cons, List.pairwise_cons]; exact ⟨hlt, h1⟩, fun t => ?_, fun it hit => ?_⟩
      · rw [List.map_cons, List.mem_cons, h2 t]; simp only [List.map_cons, List.mem_cons]; grind
      · rcases List.mem_cons.1 hit with rfl | hit
        · refine ⟨?_, ?_⟩
          · rw [atP_cons _ _ _ _ (Int.le_refl _), atP_late _ _ _ (lateF _ (Int.le_refl _))]
          · rw [atP_late b _ _ (fun z hz => by rcases List.mem_cons.1 hz with rfl | hz; exact c; exact lateG _ (Int.le_of_lt c) z hz)]
        · have hl := hlt it.1 (List.mem_map.2 ⟨it, hit, rfl⟩)
          rw [atP_cons a _ _ _ (by omega)]
          exact h3 it hit
    · split
      · rename_i c0 c
        obtain ⟨h1, h2, h3⟩ := both_spec (x :: f) g a y.v hf' hg.2
        have hlt : ∀ t ∈ (bothF (x :: f) g a y.v).map (·.1), y.t < t := fun t ht => by
          rcases (h2 t).1 ht with h | h
          · rw [List.map_cons, List.mem_cons] at h
            rcases h with rfl | h
            · exact c
            · have := hf.1 t h; omega
          · exact hg.1 t h
        refine ⟨by rw [List.map_cons, List.pairwise_cons]; exact ⟨hlt, h1⟩, fun t => ?_, fun it hit => ?_⟩
        · rw [List.map_cons, List.mem_cons, h2 t]; simp only [List.map_cons, List.mem_cons]; grind
        · rcases List.mem_cons.1 hit with rfl | hit
          · refine ⟨?_, ?_⟩
            · rw [atP_late a _ _ (fun z hz => by rcases List.mem_cons.1 hz with rfl | hz; exact c; exact lateF _ (Int.le_of_lt c) z hz)]
            · rw [atP_cons _ _ _ _ (Int.le_refl _), atP_late _ _ _ (lateG _ (Int.le_refl _))]
          · have hl := hlt it.1 (List.mem_map.2 ⟨it, hit, rfl⟩)
            rw [atP_cons b _ _ _ (by omega)]
            exact h3 it hit
      · rename_i c0 c1
        have c : x.t = y.t := by omega
        obtain ⟨h1, h2, h3⟩ := both_spec f g x.v y.v hf.2 hg.2
        have hlt : ∀ t ∈ (bothF f g x.v y.v).map (·.1), x.t < t := fun t ht => by
          rcases (h2 t).1 ht with h | h
          · exact hf.1 t h
          · have := hg.1 t h; omega
        refine ⟨by rw [List.map_cons, List.pairwise_cons]; exact ⟨hlt, h1⟩, fun t => ?_, fun it hit => ?_⟩
        · rw [List.map_cons, List.mem_cons, h2 t]; simp only [List.map_cons, List.mem_cons]; grind
        · rcases List.mem_cons.1 hit with rfl | hit
          · refine ⟨?_, ?_⟩
            · rw [atP_cons _ _ _ _ (Int.le_refl _), atP_late _ _ _ (lateF _ (Int.le_refl _))]
            · rw [atP_cons _ _ _ _ (by omega), atP_late _ _ _ (lateG _ (by omega))]
          · have hl := hlt it.1 (List.mem_map.2 ⟨it, hit, rfl⟩)
            rw [atP_cons a _ _ _ (by omega), atP_cons b _ _ _ (by omega)]
            exact h3 it hit
termination_by f g => f.length + g.length
theorem both_times (f g : List Seg) (hf : (f.map (·.t)).Pairwise (· < ·)) (hg : (g.map (·.t)).Pairwise (· < ·)) : bothF f g v0 v0 = (timesF (f.map (·.t) ++ g.map (·.t))).map fun t => (t, atF f t, atF g t) := by
  obtain ⟨h1, h2, h3⟩ := both_spec f g v0 v0 hf hg
  have e : (bothF f g v0 v0).map (·.1) = timesF (f.map (·.t) ++ g.map (·.t)) := up_unique _ _ h1 (timesF_up _) (fun t => by rw [h2 t, mem_timesF, List.mem_append])
  rw [← e, List.map_map]
  conv => lhs; rw [← List.map_id (bothF f g v0 v0)]
  refine List.map_congr_left (fun it hit => ?_)
  obtain ⟨a, b⟩ := h3 it hit
  obtain ⟨t, u, v⟩ := it
  simp only at a b
  simp [atF_P, ← a, ← b]
end Go.Proofs.Ytddbnncimggogaa.V
end
section
set_option linter.unusedSimpArgs false
set_option linter.unusedVariables false
/- calc's functions are the document's: plain. -/
namespace Go.Proofs.Ytddbnncimggogaa.V
open Go Go.Proofs Go.Proofs.Ytddbnncimggogaa.SP
theorem inR_iff (n : Int) : inR n = true ↔ -1125899906842624 ≤ n ∧ n ≤ 1125899906842624 := by unfold inR; simp
theorem mayV_iff (v : Vec) : mayV v = true ↔ (-1125899906842624 ≤ v.m ∧ v.m ≤ 1125899906842624) ∧ (-1125899906842624 ≤ v.c ∧ v.c ≤ 1125899906842624) := by
  unfold mayV; rw [Bool.and_eq_true, inR_iff, inR_iff]
theorem atF_may {f : List Seg} (h : ∀ x ∈ f, inSeg x = true) (t : Int) : mayV (atF f t) = true := by
  unfold atF
  have : ∀ (l : List Seg) (v : Vec), (∀ x ∈ l, inSeg x = true) → mayV v = true → mayV (l.foldl (fun v x => if x.t ≤ t then x.v else v) v) = true := by
    intro l
    induction l with
    | nil => intro v _ hv; exact hv
    | cons x l ih =>
      intro v hl hv
      rw [List.foldl_cons]
      refine ih _ (fun y hy => hl y (by simp [hy])) ?_
      split
      · have := hl x (by simp)
        unfold inSeg at this
        rw [Bool.and_eq_true] at this
        exact this.2
      · exact hv
  exact this f v0 h rfl
theorem oneR_may (w : Int) (a b : Vec) (ha : mayV a = true) (hb : mayV b = true) (h : (oneR w a b).2 = 0) : mayV (oneR w a b).1 = true := by
  have h1 := (mayV_iff a).1 ha
  have h2 := (mayV_iff b).1 hb
  unfold oneR at h ⊢
  split
  · rename_i c
    rw [if_pos c] at h
    unfold addR toldF at h ⊢
    repeat' split
    all_goals simp_all
  · rename_i c
    rw [if_neg c] at h
    split
    · rename_i c2
      rw [if_pos c2] at h
      unfold subR addR toldF at h ⊢
      repeat' split
      all_goals simp_all
    · split
      · rw [mayV_iff]; simp only [minV]; omega
      · rw [mayV_iff]; simp only [maxV]; omega
/-! ### Values one behind the other -/
def withs (h : Int → Vec) (ts : List Int) (acc : List Seg) : List Seg := ts.foldl (fun f t => withF f t (h t)) acc
theorem lastW_snoc (f : List Seg) (x : Seg) : lastW (f ++ [x]) = x.v := by simp [lastW]
theorem canon_snoc : ∀ (f : List Seg) (l : Vec) (x : Seg), Canon f l → (∀ y ∈ f, y.t < x.t) → ¬ x.v = ((f.getLast?.map (·.v)).getD l) → Canon (f ++ [x]) l
  | [], l, x, _, _, h => ⟨by simpa using h, by simp, trivial⟩
  | y :: f, l, x, hf, ht, h => by
    refine ⟨hf.1, fun z hz => ?_, canon_snoc f y.v x hf.2.2 (fun z hz => ht z (by simp [hz])) ?_⟩
    · rcases List.mem_append.1 hz with hz | hz
      · exact hf.2.1 z hz
      · rw [List.mem_singleton.1 hz]; exact ht y (by simp)
    · cases f with
      | nil => simpa using h
      | cons z f =>
        obtain ⟨w, hw⟩ : ∃ w, (z :: f).getLast? = some w := ⟨_, List.getLast?_eq_some_getLast (by simp)⟩
        rw [List.getLast?_cons_cons, hw] at h
        rw [hw]; exact h
theorem with_spec (f : List Seg) (t : Int) (v : Vec) (hc : Canon f v0) (hl : ∀ x ∈ f, x.t < t) :
    Canon (withF f t v) v0 ∧ (∀ x ∈ withF f t v, x.t ≤ t) ∧ (∀ x ∈ withF f t v, x ∈ f ∨ x = ⟨t, v⟩) ∧ ∀ u, atF (withF f t v) u = if t ≤ u then v else atF f u := by
  have hat : ∀ u, t ≤ u → atF f u = lastW f := by
    intro u hu
    have : ∀ (l : List Seg) (v : Vec), (∀ x ∈ l, x.t < t) → l.foldl (fun v x => if x.t ≤ u then x.v else v) v = (l.getLast?.map (·.v)).getD v := by
      intro l
      induction l with
      | nil => intro v _; rfl
      | cons x l ih =>
        intro v hx
        rw [List.foldl_cons, if_pos (by have := hx x (by simp); omega), ih _ (fun y hy => hx y (by simp [hy]))]
        cases l with
        | nil => rfl
        | cons y l =>
          obtain ⟨w, hw⟩ : ∃ w, (y :: l).getLast? = some w := ⟨_, List.getLast?_eq_some_getLast (by simp)⟩
          rw [List.getLast?_cons_cons, hw]; rfl
    exact this f v0 hl
  unfold withF
  split
  · rename_i h
    refine ⟨hc, fun x hx => by have := hl x hx; omega, fun x hx => .inl hx, fun u => ?_⟩
    split
    · rename_i hu; rw [hat u hu, h]
    · rfl
  · rename_i h
    refine ⟨canon_snoc f v0 _ hc hl h, fun x hx => ?_, fun x hx => ?_, fun u => ?_⟩
    · rcases List.mem_append.1 hx with hx | hx
      · have := hl x hx; omega
      · rw [List.mem_singleton.1 hx]; exact Int.le_refl _
    · rcases List.mem_append.1 hx with hx | hx
      · exact .inl hx
      · exact .inr (List.mem_singleton.1 hx)
    · rw [atF_snoc]
/-- The value at the last of some times that is at most a time. -/
def lastH (h : Int → Vec) (ts : List Int) (d : Vec) (u : Int) : Vec := ts.foldl (fun v t => if t ≤ u then h t else v) d
theorem withs_spec (h : Int → Vec) : ∀ (ts : List Int) (acc : List Seg), ts.Pairwise (· < ·) → Canon acc v0 → (∀ x ∈ acc, ∀ t ∈ ts, x.t < t) →
    Canon (withs h ts acc) v0 ∧ (∀ x ∈ withs h ts acc, x ∈ acc ∨ ∃ t ∈ ts, x = ⟨t, h t⟩) ∧ ∀ u, atF (withs h ts acc) u = lastH h ts (atF acc u) u
  | [], acc, _, hc, _ => ⟨hc, fun x hx => .inl hx, fun u => rfl⟩
  | t :: ts, acc, hu, hc, hl => by
    have hu2 := List.pairwise_cons.1 hu
    obtain ⟨c1, c2, c3, c4⟩ := with_spec acc t (h t) hc (fun x hx => hl x hx t (by simp))
    obtain ⟨d1, d2, d3⟩ := withs_spec h ts (withF acc t (h t)) hu2.2 c1 (fun x hx s hs => by have := c2 x hx; have := hu2.1 s hs; omega)
    refine ⟨d1, fun x hx => ?_, fun u => ?_⟩
    · rcases d2 x hx with hx | ⟨s, hs, e⟩
      · rcases c3 x hx with hx | e
        · exact .inl hx
        · exact .inr ⟨t, by simp, e⟩
      · exact .inr ⟨s, by simp [hs], e⟩
    · have := d3 u
      rw [c4] at this
      exact this
theorem lastH_at (h : Int → Vec) : ∀ (ts : List Int) (d : Vec) (u : Int), ts.Pairwise (· < ·) → (lastH h ts d u = d ∧ ∀ t ∈ ts, u < t) ∨ ∃ s ∈ ts, s ≤ u ∧ lastH h ts d u = h s ∧ ∀ t ∈ ts, t ≤ u → t ≤ s
  | [], d, u, _ => .inl ⟨rfl, by simp⟩
  | t :: ts, d, u, hu => by
    have hu2 := List.pairwise_cons.1 hu
    by_cases c : t ≤ u
    · rcases lastH_at h ts (h t) u hu2.2 with ⟨e, hn⟩ | ⟨s, hs, h1, h2, h3⟩
      · refine .inr ⟨t, by simp, c, ?_, fun z hz hzu => ?_⟩
        · unfold lastH; rw [List.foldl_cons, if_pos c]; exact e
        · rcases List.mem_cons.1 hz with rfl | hz
          · exact Int.le_refl _
          · have := hn z hz; omega
      · refine .inr ⟨s, by simp [hs], h1, ?_, fun z hz hzu => ?_⟩
        · unfold lastH; rw [List.foldl_cons, if_pos c]; exact h2
        · rcases List.mem_cons.1 hz with rfl | hz
          · have := hu2.1 s hs; omega
          · exact h3 z hz hzu
    · refine .inl ⟨?_, fun z hz => ?_⟩
      · have : ∀ (l : List Int), (∀ z ∈ l, u < z) → ∀ d, lastH h l d u = d := by
          intro l
          induction l with
          | nil => intro _ d; rfl
          | cons z l ih => intro hz d; unfold lastH; rw [List.foldl_cons, if_neg (by have := hz z (by simp); omega)]; exact ih (fun y hy => hz y (by simp [hy])) d
        exact this (t :: ts) (fun z hz => by rcases List.mem_cons.1 hz with rfl | hz; omega; have := hu2.1 z hz; omega) d
      · rcases List.mem_cons.1 hz with rfl | hz
        · omega
        · have := hu2.1 z hz; omega
/-- A function changes at its own times only. -/
theorem atF_between (f : List Seg) (s u : Int) (hsu : s ≤ u) (h : ∀ x ∈ f, ¬ (s < x.t ∧ x.t ≤ u)) : atF f u = atF f s := by
  unfold atF
  have : ∀ (l : List Seg), (∀ x ∈ l, ¬ (s < x.t ∧ x.t ≤ u)) → ∀ v, l.foldl (fun v x => if x.t ≤ u then x.v else v) v = l.foldl (fun v x => if x.t ≤ s then x.v else v) v := by
    intro l
    induction l with
    | nil => intro _ v; rfl
    | cons x l ih =>
      intro hx v
      have h1 := hx x (by simp)
      rw [List.foldl_cons, List.foldl_cons]
      have e : (if x.t ≤ u then x.v else v) = (if x.t ≤ s then x.v else v) := by
        by_cases c : x.t ≤ s
        · rw [if_pos c, if_pos (by omega)]
        · rw [if_neg c, if_neg (by omega)]
      rw [e]
      exact ih (fun y hy => hx y (by simp [hy])) _
  exact this f h v0
theorem atF_early (f : List Seg) (u : Int) (h : ∀ x ∈ f, u < x.t) : atF f u = v0 := atP_late v0 f u h
/-! ### The document's function of two -/
theorem doF_ok (w : Int) (f g : List Seg) : ∀ (ts : List Int) (acc : List Seg), (∀ t ∈ ts, (oneR w (atF f t) (atF g t)).2 = 0) → doF w f g ts acc = (withs (fun t => (oneR w (atF f t) (atF g t)).1) ts acc, 0)
  | [], acc, _ => rfl
  | t :: ts, acc, h => by
    unfold doF
    rw [if_pos (h t (by simp)), doF_ok w f g ts _ (fun s hs => h s (by simp [hs]))]
    rfl
theorem doF_bad (w : Int) (f g : List Seg) : ∀ (ts : List Int) (acc : List Seg), (∃ t ∈ ts, ¬ (oneR w (atF f t) (atF g t)).2 = 0) → doF w f g ts acc = ([], 10)
  | [], acc, h => by obtain ⟨t, ht, _⟩ := h; cases ht
  | t :: ts, acc, ⟨s, hs, he⟩ => by
    unfold doF
    split
    · rename_i h0
      refine doF_bad w f g ts _ ⟨s, ?_, he⟩
      rcases List.mem_cons.1 hs with rfl | hs
      · exact absurd h0 he
      · exact hs
    · rfl
theorem one_v0 (w : Int) : oneR w v0 v0 = (v0, 0) := by
  unfold oneR
  split
  · decide
  · split
    · decide
    · split <;> decide
/-- Either all goes well, and the function is what is made at each time, or at some time it may not be. -/
theorem doR_law (w : Int) (f g : List Seg) (hf : mayF f = true) (hg : mayF g = true) :
    ((∀ t, (oneR w (atF f t) (atF g t)).2 = 0) ∧ (doR w f g).2 = 0 ∧ mayF (doR w f g).1 = true ∧ ∀ t, atF (doR w f g).1 t = (oneR w (atF f t) (atF g t)).1) ∨
    ((∃ t, ¬ (oneR w (atF f t) (atF g t)).2 = 0) ∧ doR w f g = ([], 10)) := by
  obtain ⟨cf, sf⟩ := (mayF_iff f).1 hf
  obtain ⟨cg, sg⟩ := (mayF_iff g).1 hg
  have hts := timesF_up (f.map (·.t) ++ g.map (·.t))
  have hmem : ∀ t, t ∈ timesF (f.map (·.t) ++ g.map (·.t)) ↔ (∃ x ∈ f, x.t = t) ∨ ∃ x ∈ g, x.t = t := fun t => by
    rw [mem_timesF, List.mem_append, List.mem_map, List.mem_map]
  obtain ⟨ts, hts0⟩ : ∃ ts, timesF (f.map (·.t) ++ g.map (·.t)) = ts := ⟨_, rfl⟩
  rw [hts0] at hts
  simp only [hts0] at hmem
  have hdo : doR w f g = doF w f g ts [] := by unfold doR; rw [hf, hg, hts0]; rfl
  -- at any time, as at the last time ahead of it
  have key : ∀ u, (atF f u = v0 ∧ atF g u = v0 ∧ ∀ t ∈ ts, u < t) ∨ ∃ s ∈ ts, s ≤ u ∧ atF f u = atF f s ∧ atF g u = atF g s ∧ ∀ t ∈ ts, t ≤ u → t ≤ s := fun u => by
    rcases lastH_at (fun _ => v0) ts v0 u hts with ⟨_, h⟩ | ⟨s, hs, h1, _, h2⟩
    · exact .inl ⟨atF_early f u (fun x hx => h x.t ((hmem _).2 (.inl ⟨x, hx, rfl⟩))), atF_early g u (fun x hx => h x.t ((hmem _).2 (.inr ⟨x, hx, rfl⟩))), h⟩
    · refine .inr ⟨s, hs, h1, atF_between f s u h1 (fun x hx hc => ?_), atF_between g s u h1 (fun x hx hc => ?_), h2⟩
      · have := h2 x.t ((hmem _).2 (.inl ⟨x, hx, rfl⟩)) hc.2; omega
      · have := h2 x.t ((hmem _).2 (.inr ⟨x, hx, rfl⟩)) hc.2; omega
  by_cases hall : ∀ t ∈ ts, (oneR w (atF f t) (atF g t)).2 = 0
  · left
    have hok := doF_ok w f g ts [] hall
    obtain ⟨d1, d2, d3⟩ := withs_spec (fun t => (oneR w (atF f t) (atF g t)).1) ts [] hts trivial (by simp)
    rw [hdo, hok]
    refine ⟨fun u => ?_, rfl, (mayF_iff _).2 ⟨d1, fun x hx => ?_⟩, fun u => ?_⟩
    · rcases key u with ⟨e1, e2, _⟩ | ⟨s, hs, _, e1, e2, _⟩
      · rw [e1, e2, one_v0]
      · rw [e1, e2]; exact hall s hs
    · rcases d2 x hx with h | ⟨t, ht, rfl⟩
      · cases h
      · have hm := oneR_may w _ _ (atF_may sf t) (atF_may sg t) (hall t ht)
        have hin : inR t = true := by
          rcases (hmem t).1 ht with ⟨y, hy, rfl⟩ | ⟨y, hy, rfl⟩
          · have := sf y hy; unfold inSeg at this; rw [Bool.and_eq_true] at this; exact this.1
          · have := sg y hy; unfold inSeg at this; rw [Bool.and_eq_true] at this; exact this.1
        unfold inSeg; rw [hin, hm]; rfl
    · show atF (withs (fun t => (oneR w (atF f t) (atF g t)).1) ts []) u = _
      rw [d3 u]
      rcases lastH_at (fun t => (oneR w (atF f t) (atF g t)).1) ts (atF [] u) u hts with ⟨e, hn⟩ | ⟨s, hs, h1, h2, h3⟩
      · rw [e]
        rcases key u with ⟨e1, e2, _⟩ | ⟨s, hs, h4, _⟩
        · rw [e1, e2, one_v0]; rfl
        · have := hn s hs; omega
      · rw [h2]
        rcases key u with ⟨_, _, hn⟩ | ⟨s', hs', h4, e1, e2, h5⟩
        · have := hn s hs; omega
        · have a := h3 s' hs' h4
          have b := h5 s hs h1
          have : s = s' := by omega
          subst this
          simp only [e1, e2]
  · right
    have hex : ∃ t ∈ ts, ¬ (oneR w (atF f t) (atF g t)).2 = 0 := by
      rcases Classical.em (∃ t ∈ ts, ¬ (oneR w (atF f t) (atF g t)).2 = 0) with h | h
      · exact h
      · exact absurd (fun t ht => Classical.byContradiction fun hn => h ⟨t, ht, hn⟩) hall
    obtain ⟨t, ht, he⟩ := hex
    exact ⟨⟨t, he⟩, by rw [hdo]; exact doF_bad w f g ts [] ⟨t, ht, he⟩⟩
/-! ### The program's way -/
theorem srt_self {xs : List Seg} (h : (xs.map (·.t)).Pairwise (· < ·)) : sortS (ltB cmpS) xs = xs := by
  refine (sortS_of swoS ?_ (Stb.refl _)).symm
  rw [List.pairwise_map] at h
  exact h.imp (fun {a b} hab => by rw [ltS]; simp; omega)
theorem fold_withs : ∀ (xs acc : List Seg), (xs.map (·.t)).Pairwise (· < ·) → foldB xs acc (lastW acc) = xs.foldl (fun f x => withF f x.t x.v) acc
  | [], acc, _ => rfl
  | x :: xs, acc, h => by
    rw [List.map_cons, List.pairwise_cons] at h
    have hn : nextB x xs = true := by
      cases xs with
      | nil => rfl
      | cons y xs => have := h.1 y.t (by simp); simp [nextB]; omega
    rw [foldB, if_pos hn, List.foldl_cons]
    have e : (putF acc (lastW acc) x).1 = withF acc x.t x.v ∧ (putF acc (lastW acc) x).2 = lastW (withF acc x.t x.v) := by
      unfold putF withF
      split
      · exact ⟨rfl, rfl⟩
      · exact ⟨by simp, (lastW_snoc _ _).symm⟩
    rw [e.1, e.2]
    exact fold_withs xs _ h.2
theorem rawJ_ok (jf : Vec → Vec → Vec × Int) : ∀ (L : List (Int × Vec × Vec)) (acc : List Seg), (∀ it ∈ L, (jf it.2.1 it.2.2).2 = 0) → rawJ jf L acc = (acc ++ L.map (fun it => ⟨it.1, (jf it.2.1 it.2.2).1⟩), 0)
  | [], acc, _ => by simp [rawJ]
  | it :: L, acc, h => by
    unfold rawJ
    rw [if_pos (h it (by simp)), rawJ_ok jf L _ (fun x hx => h x (by simp [hx]))]
    simp
theorem rawJ_bad (jf : Vec → Vec → Vec × Int) (he : ∀ a b, (jf a b).2 = 0 ∨ (jf a b).2 = 10) : ∀ (L : List (Int × Vec × Vec)) (acc : List Seg), (∃ it ∈ L, ¬ (jf it.2.1 it.2.2).2 = 0) → rawJ jf L acc = ([], 10)
  | [], acc, h => by obtain ⟨t, ht, _⟩ := h; cases ht
  | it :: L, acc, ⟨s, hs, h0⟩ => by
    unfold rawJ
    split
    · rename_i h1
      refine rawJ_bad jf he L _ ⟨s, ?_, h0⟩
      rcases List.mem_cons.1 hs with rfl | hs
      · exact absurd h1 h0
      · exact hs
    · rename_i h1
      rw [(he _ _).resolve_left h1]
/-- What the program makes of two functions is what the document says. -/
theorem made_do (w : Int) (jf : Vec → Vec → Vec × Int) (hj : ∀ a b, mayV a = true → mayV b = true → jf a b = oneR w a b) (he : ∀ a b, (jf a b).2 = 0 ∨ (jf a b).2 = 10) (f g : List Seg) : madeF jf f g = doR w f g := by
  by_cases hfg : (mayF f && mayF g) = true
  case neg =>
    unfold madeF doR
    rw [if_neg hfg, if_neg hfg]
  rw [Bool.and_eq_true] at hfg
  obtain ⟨hf, hg⟩ := hfg
  obtain ⟨cf, sf⟩ := (mayF_iff f).1 hf
  obtain ⟨cg, sg⟩ := (mayF_iff g).1 hg
  have hb := both_times f g cf.up cg.up
  have hts := timesF_up (f.map (·.t) ++ g.map (·.t))
  have hmem : ∀ t, t ∈ timesF (f.map (·.t) ++ g.map (·.t)) → (∃ x ∈ f, x.t = t) ∨ ∃ x ∈ g, x.t = t := fun t => by
    rw [mem_timesF, List.mem_append, List.mem_map, List.mem_map]; exact id
  obtain ⟨ts, hts0⟩ : ∃ ts, timesF (f.map (·.t) ++ g.map (·.t)) = ts := ⟨_, rfl⟩
  rw [hts0] at hb hts
  simp only [hts0] at hmem
  have hjt : ∀ t, jf (atF f t) (atF g t) = oneR w (atF f t) (atF g t) := fun t => hj _ _ (atF_may sf t) (atF_may sg t)
  have hdo : doR w f g = doF w f g ts [] := by unfold doR; rw [hf, hg, hts0]; rfl
  have hmade : madeF jf f g = if (rawJ jf (bothF f g v0 v0) []).2 = 0 then ofF (rawJ jf (bothF f g v0 v0) []).1 else ([], (rawJ jf (bothF f g v0 v0) []).2) := by unfold madeF; rw [hf, hg]; rfl
  rw [hdo, hmade, hb]
  by_cases hall : ∀ t ∈ ts, (oneR w (atF f t) (atF g t)).2 = 0
  · rw [rawJ_ok jf _ [] (fun it hit => by obtain ⟨t, ht, rfl⟩ := List.mem_map.1 hit; rw [show (jf (atF f t) (atF g t)).2 = _ from by rw [hjt]]; exact hall t ht), if_pos rfl, doF_ok w f g ts [] hall]
    simp only [List.nil_append, List.map_map]
    have e : (ts.map ((fun it : Int × Vec × Vec => (⟨it.1, (jf it.2.1 it.2.2).1⟩ : Seg)) ∘ fun t => (t, atF f t, atF g t))) = ts.map (fun t => (⟨t, (oneR w (atF f t) (atF g t)).1⟩ : Seg)) := List.map_congr_left (fun t _ => by simp [hjt])
    rw [e]
    have hup : ((ts.map (fun t => (⟨t, (oneR w (atF f t) (atF g t)).1⟩ : Seg))).map (·.t)).Pairwise (· < ·) := by
      rw [List.map_map]
      have : ((fun x : Seg => x.t) ∘ fun t => (⟨t, (oneR w (atF f t) (atF g t)).1⟩ : Seg)) = id := rfl
      rw [this, List.map_id]; exact hts
    have hin : (ts.map (fun t => (⟨t, (oneR w (atF f t) (atF g t)).1⟩ : Seg))).all inSeg = true := by
      rw [List.all_eq_true]
      intro x hx
      obtain ⟨t, ht, rfl⟩ := List.mem_map.1 hx
      have hm := oneR_may w _ _ (atF_may sf t) (atF_may sg t) (hall t ht)
      have hr : inR t = true := by
        rcases hmem t ht with ⟨y, hy, rfl⟩ | ⟨y, hy, rfl⟩
        · have := sf y hy; unfold inSeg at this; rw [Bool.and_eq_true] at this; exact this.1
        · have := sg y hy; unfold inSeg at this; rw [Bool.and_eq_true] at this; exact this.1
      unfold inSeg; rw [hr, hm]; rfl
    unfold ofF
    rw [if_pos hin]
    have hfold : foldF (ts.map (fun t => (⟨t, (oneR w (atF f t) (atF g t)).1⟩ : Seg))) = withs (fun t => (oneR w (atF f t) (atF g t)).1) ts [] := by
      unfold foldF
      rw [srt_self hup]
      have := fold_withs (ts.map (fun t => (⟨t, (oneR w (atF f t) (atF g t)).1⟩ : Seg))) [] hup
      rw [show lastW [] = v0 from rfl] at this
      rw [this, List.foldl_map]; rfl
    rw [hfold]
  · have hex : ∃ t ∈ ts, ¬ (oneR w (atF f t) (atF g t)).2 = 0 := by
      rcases Classical.em (∃ t ∈ ts, ¬ (oneR w (atF f t) (atF g t)).2 = 0) with h | h
      · exact h
      · exact absurd (fun t ht => Classical.byContradiction fun hn => h ⟨t, ht, hn⟩) hall
    obtain ⟨t, ht, he0⟩ := hex
    rw [rawJ_bad jf he _ [] ⟨(t, atF f t, atF g t), List.mem_map.2 ⟨t, ht, rfl⟩, by simp only; rw [hjt]; exact he0⟩, if_neg (by decide), doF_bad w f g ts [] ⟨t, ht, he0⟩]
end Go.Proofs.Ytddbnncimggogaa.V
end
section
set_option linter.unusedSimpArgs false
set_option linter.unusedVariables false
/- calc.LE, Add are the document's; what being at most says: plain. -/
namespace Go.Proofs.Ytddbnncimggogaa.V
open Go Go.Proofs Go.Proofs.Ytddbnncimggogaa.SP
theorem max_do (f g : List Seg) : madeF (fun a b => (maxV a b, 0)) f g = doR 3 f g := made_do 3 _ (fun a b _ _ => by unfold oneR; simp) (fun a b => .inl rfl) f g
/-! ### Being at most -/
end Go.Proofs.Ytddbnncimggogaa.V
end
section
set_option linter.unusedSimpArgs false
set_option linter.unusedVariables false
/- Sums and differences, one against the other: plain. -/
namespace Go.Proofs.Ytddbnncimggogaa.V
open Go Go.Proofs Go.Proofs.Ytddbnncimggogaa.SP
theorem max_val (a b : Vec) : oneR 3 a b = (maxV a b, 0) := by unfold oneR; simp
theorem max_ok (f g : List Seg) (hf : mayF f = true) (hg : mayF g = true) : (doR 3 f g).2 = 0 ∧ mayF (doR 3 f g).1 = true ∧ ∀ t, atF (doR 3 f g).1 t = maxV (atF f t) (atF g t) := by
  rcases doR_law 3 f g hf hg with ⟨_, h2, h3, h4⟩ | ⟨⟨t, ht⟩, _⟩
  · exact ⟨h2, h3, fun t => by rw [h4 t, max_val]⟩
  · rw [max_val] at ht; exact absurd rfl ht
/-! ### At most -/
end Go.Proofs.Ytddbnncimggogaa.V
end
section
set_option linter.unusedSimpArgs false
set_option linter.unusedVariables false
/- Begins, in plain Lean: what the package slot's functions compute. -/
namespace Go.Proofs.Ytddbnncimggogaa.V
open Go Go.Proofs
def sumD : List Leg → Int
  | [] => 0
  | x :: r => x.d + sumD r
def badD (x : Leg) : Bool := decide (x.d < 1) || decide (4096 < x.d)
def lengthF (l : List Leg) : Int × Int := if l.any badD || decide (l.length = 0) || decide (16 < l.length) then (0, 2) else (sumD l, 0)
def farF (t : Int) : Bool := decide (t < -1099511627776) || decide (1099511627776 < t)
def checkF (f : List Seg) (w : Vec) (l : List Leg) : Int × Int :=
  if mayF f then (if (lengthF l).2 ≠ 0 ∨ w.c ≤ w.m ∨ 4096 < w.c - w.m then (0, 2) else if farF w.m || farF w.c || l.any (fun x => !mayV x.v) then (0, 10) else ((lengthF l).1, 0)) else (0, 5)
def leW (a b : Vec) : Bool := decide (a.m ≤ b.m) && decide (a.c ≤ b.c)
/-- The windows (from, to) in which a function is not at least a vector. -/
def lowGo (w v : Vec) : List Seg → Int → Vec → List Vec
  | [], p, u => if leW v u then [] else [⟨p, w.c⟩]
  | x :: r, p, u => if x.t ≤ w.m ∨ w.c ≤ x.t then lowGo w v r p u else if leW v u then lowGo w v r x.t x.v else ⟨p, x.t⟩ :: lowGo w v r x.t x.v
def lowF (f : List Seg) (w v : Vec) : List Vec := lowGo w v f w.m (atF f w.m)
def cutW (x w : Vec) : List Vec := (if w.m < min w.c x.m then [⟨w.m, min w.c x.m⟩] else []) ++ (if max w.m x.c < w.c then [⟨max w.m x.c, w.c⟩] else [])
def withoutF : List Vec → Vec → List Vec
  | [], _ => []
  | w :: r, x => cutW x w ++ withoutF r x
def shiftW (d a : Int) (b : Vec) : Vec := ⟨b.m - d + 1 - a, b.c - a⟩
def cutsF (d a : Int) : List Vec → List Vec → List Vec
  | [], out => out
  | b :: r, out => cutsF d a r (withoutF out (shiftW d a b))
def legsF (f : List Seg) (w : Vec) : List Leg → Int → List Vec → List Vec
  | [], _, out => out
  | x :: r, a, out => legsF f w r (a + x.d) (cutsF x.d a (lowF f w x.v) out)
def beginsF (f : List Seg) (w : Vec) (l : List Leg) : List Vec × Int :=
  if (checkF f w l).2 ≠ 0 ∨ w.c - w.m < (checkF f w l).1 then ([], (checkF f w l).2) else (legsF f w l 0 [⟨w.m, w.c - (checkF f w l).1 + 1⟩], 0)
theorem sumD_take {l : List Leg} {k : Nat} (h : k < l.length) : sumD (l.take (k + 1)) = sumD (l.take k) + l[k].d := by
  induction l generalizing k with
  | nil => simp at h
  | cons x r ih =>
    cases k with
    | zero => simp [sumD]
    | succ k => simp only [List.take_succ_cons, sumD, List.getElem_cons_succ]; rw [ih (by simpa using h)]; omega
theorem sumD_app (a b : List Leg) : sumD (a ++ b) = sumD a + sumD b := by
  induction a with
  | nil => simp [sumD]
  | cons x r ih => simp only [List.cons_append, sumD, ih]; omega
theorem withoutF_app (a b : List Vec) (x : Vec) : withoutF (a ++ b) x = withoutF a x ++ withoutF b x := by
  induction a with
  | nil => rfl
  | cons w r ih => simp only [List.cons_append, withoutF, ih, List.append_assoc]
theorem withoutF_take {l : List Vec} {k : Nat} (h : k < l.length) (x : Vec) : withoutF (l.take (k + 1)) x = withoutF (l.take k) x ++ cutW x l[k] := by
  rw [List.take_add_one, List.getElem?_eq_getElem h, withoutF_app]; simp [withoutF]
/-- Rows of times: each from a time on, to another one, one behind the other. -/
def Rows (lo hi : Int) : List Vec → Prop
  | [] => True
  | w :: r => lo ≤ w.m ∧ w.m < w.c ∧ w.c ≤ hi ∧ Rows w.c hi r
theorem Rows.mono {lo lo' hi : Int} (h : lo' ≤ lo) : ∀ {l : List Vec}, Rows lo hi l → Rows lo' hi l
  | [], _ => trivial
  | w :: r, ⟨a, b⟩ => ⟨by omega, b⟩
theorem Rows.len {hi : Int} : ∀ {l : List Vec} {lo : Int}, Rows lo hi l → lo ≤ hi → (l.length : Int) ≤ hi - lo
  | [], lo, _, h => by simp; omega
  | w :: r, lo, ⟨a, b, c, d⟩, h => by
    have := Rows.len d c
    simp only [List.length_cons]; omega
theorem Rows.app {mid hi : Int} : ∀ {a : List Vec} {lo : Int} {b : List Vec}, Rows lo mid a → Rows mid hi b → lo ≤ mid → mid ≤ hi → Rows lo hi (a ++ b)
  | [], lo, b, _, h, h1, _ => h.mono h1
  | w :: r, lo, b, ⟨a1, a2, a3, a4⟩, h, h1, h2 => ⟨a1, a2, by omega, Rows.app a4 h a3 h2⟩
theorem cutW_rows (x w : Vec) (h : w.m < w.c) (hx : x.m ≤ x.c) : Rows w.m w.c (cutW x w) := by
  simp only [cutW, Int.min_def, Int.max_def]
  (repeat' split) <;> simp only [Rows, List.nil_append, List.cons_append, and_true] <;> omega
theorem Rows.without {x : Vec} (hx : x.m ≤ x.c) {hi : Int} : ∀ {l : List Vec} {lo : Int}, Rows lo hi l → Rows lo hi (withoutF l x)
  | [], _, _ => trivial
  | w :: r, lo, ⟨a, b, c, d⟩ => by
    have h1 : Rows lo w.c (cutW x w) := (cutW_rows x w b hx).mono a
    exact Rows.app h1 (Rows.without hx d) (by omega) c
/-- All low windows lie in the window, and are windows. -/
theorem lowGo_in {w v : Vec} : ∀ (r : List Seg) (p : Int) (u : Vec), w.m ≤ p → p ≤ w.c → ∀ b ∈ lowGo w v r p u, w.m ≤ b.m ∧ b.c ≤ w.c ∧ w.m ≤ b.c ∧ b.m ≤ w.c
  | [], p, u, h1, h2, b, hb => by
    unfold lowGo at hb
    split at hb
    · cases hb
    · simp at hb; subst hb; simp only; omega
  | x :: r, p, u, h1, h2, b, hb => by
    unfold lowGo at hb
    split at hb
    · exact lowGo_in r p u h1 h2 b hb
    · split at hb
      · exact lowGo_in r x.t x.v (by omega) (by omega) b hb
      · rcases List.mem_cons.1 hb with rfl | hb
        · simp only; omega
        · exact lowGo_in r x.t x.v (by omega) (by omega) b hb
theorem lowF_in {f : List Seg} {w v : Vec} (h : w.m ≤ w.c) : ∀ b ∈ lowF f w v, w.m ≤ b.m ∧ b.c ≤ w.c ∧ w.m ≤ b.c ∧ b.m ≤ w.c := lowGo_in f _ _ (Int.le_refl _) h
end Go.Proofs.Ytddbnncimggogaa.V
end
section
set_option linter.unusedSimpArgs false
set_option linter.unusedVariables false
/- Begins of legs that are cut in two, and of legs with one of nothing ahead: plain. -/
namespace Go.Proofs.Ytddbnncimggogaa.V
open Go Go.Proofs
/-- Rows that don't touch each other. -/
def RowsG (lo hi : Int) : List Vec → Prop
  | [] => True
  | w :: r => lo ≤ w.m ∧ w.m < w.c ∧ w.c ≤ hi ∧ RowsG (w.c + 1) hi r
def inW (w : Vec) (t : Int) : Prop := w.m ≤ t ∧ t < w.c
def memW (l : List Vec) (t : Int) : Prop := ∃ w ∈ l, inW w t
theorem memW_nil (t : Int) : memW [] t ↔ False := by simp [memW]
theorem memW_cons (w : Vec) (r : List Vec) (t : Int) : memW (w :: r) t ↔ inW w t ∨ memW r t := by simp [memW]
theorem memW_app (a b : List Vec) (t : Int) : memW (a ++ b) t ↔ memW a t ∨ memW b t := by
  induction a with
  | nil => simp [memW_nil]
  | cons w r ih => rw [List.cons_append, memW_cons, memW_cons, ih, or_assoc]
theorem RowsG.mono {lo lo' hi : Int} (h : lo' ≤ lo) : ∀ {l : List Vec}, RowsG lo hi l → RowsG lo' hi l
  | [], _ => trivial
  | w :: r, ⟨a, b⟩ => ⟨by omega, b⟩
theorem RowsG.rows {hi : Int} : ∀ {l : List Vec} {lo : Int}, RowsG lo hi l → Rows lo hi l
  | [], _, _ => trivial
  | w :: r, _, ⟨a, b, c, d⟩ => ⟨a, b, c, d.rows.mono (by omega)⟩
theorem RowsG.low {hi t : Int} : ∀ {l : List Vec} {lo : Int}, RowsG lo hi l → memW l t → lo ≤ t
  | [], _, _, h => absurd h (by simp [memW])
  | w :: r, lo, ⟨a, b, c, d⟩, h => by
    rcases (memW_cons _ _ _).1 h with h | h
    · have := h.1; omega
    · have := d.low h; omega
theorem RowsG.head {hi t lo : Int} {w : Vec} {r : List Vec} (h : RowsG lo hi (w :: r)) (hm : memW (w :: r) t) : w.m ≤ t := RowsG.low (l := w :: r) (lo := w.m) (hi := hi) ⟨Int.le_refl _, h.2⟩ hm
theorem RowsG.app {mid hi : Int} : ∀ {a : List Vec} {lo : Int} {b : List Vec}, RowsG lo mid a → RowsG (mid + 1) hi b → lo ≤ mid + 1 → mid ≤ hi → RowsG lo hi (a ++ b)
  | [], _, _, _, h, h1, _ => h.mono h1
  | w :: r, lo, b, ⟨a1, a2, a3, a4⟩, h, h1, h2 => ⟨a1, a2, by omega, RowsG.app a4 h (by omega) h2⟩
theorem cutW_G (x w : Vec) (h : w.m < w.c) (hx : x.m < x.c) : RowsG w.m w.c (cutW x w) := by
  simp only [cutW, Int.min_def, Int.max_def]
  (repeat' split) <;> simp only [RowsG, List.nil_append, List.cons_append, and_true] <;> omega
theorem RowsG.without {x : Vec} (hx : x.m < x.c) {hi : Int} : ∀ {l : List Vec} {lo : Int}, RowsG lo hi l → RowsG lo hi (withoutF l x)
  | [], _, _ => trivial
  | w :: r, lo, ⟨a, b, c, d⟩ => RowsG.app ((cutW_G x w b hx).mono a) (RowsG.without hx d) (by omega) c
theorem memW_if (c : Prop) [Decidable c] (w : Vec) (t : Int) : memW (if c then [w] else []) t ↔ c ∧ inW w t := by
  split <;> simp [*, memW]
theorem memW_cut (x w : Vec) (t : Int) : memW (cutW x w) t ↔ inW w t ∧ ¬ inW x t := by
  simp only [cutW, memW_app, memW_if, inW]
  omega
theorem memW_without (x : Vec) (t : Int) : ∀ (l : List Vec), memW (withoutF l x) t ↔ memW l t ∧ ¬ inW x t
  | [] => by simp [withoutF, memW_nil]
  | w :: r => by
    rw [withoutF, memW_app, memW_cut, memW_without x t r, memW_cons]
    constructor
    · rintro (⟨a, b⟩ | ⟨a, b⟩)
      · exact ⟨.inl a, b⟩
      · exact ⟨.inr a, b⟩
    · rintro ⟨a | a, b⟩
      · exact .inl ⟨a, b⟩
      · exact .inr ⟨a, b⟩
theorem memW_cuts (d a t : Int) : ∀ (bads out : List Vec), memW (cutsF d a bads out) t ↔ memW out t ∧ ∀ b ∈ bads, ¬ inW (shiftW d a b) t
  | [], out => by simp [cutsF]
  | b :: r, out => by
    rw [cutsF, memW_cuts d a t r, memW_without]
    simp only [List.mem_cons, forall_eq_or_imp, and_assoc]
theorem cuts_G {d a lo hi : Int} (hd : 1 ≤ d) : ∀ (bads : List Vec) (out : List Vec), (∀ b ∈ bads, b.m < b.c) → RowsG lo hi out → RowsG lo hi (cutsF d a bads out)
  | [], out, _, h => h
  | b :: r, out, hb, h => cuts_G hd r _ (fun x hx => hb x (by simp [hx])) (h.without (by have := hb b (by simp); simp only [shiftW]; omega))
/-- No leg, the first of which begins so much behind a time, stands on a low window. -/
def okL (f : List Seg) (w : Vec) : List Leg → Int → Int → Prop
  | [], _, _ => True
  | x :: r, a, t => (∀ b ∈ lowF f w x.v, ¬ inW (shiftW x.d a b) t) ∧ okL f w r (a + x.d) t
theorem memW_legs (f : List Seg) (w : Vec) (t : Int) : ∀ (l : List Leg) (a : Int) (out : List Vec), memW (legsF f w l a out) t ↔ memW out t ∧ okL f w l a t
  | [], a, out => by simp [legsF, okL]
  | x :: r, a, out => by rw [legsF, memW_legs f w t r, memW_cuts, okL, and_assoc]
theorem legs_G {f : List Seg} {w : Vec} (hf : ∀ v, ∀ b ∈ lowF f w v, b.m < b.c) {lo hi : Int} : ∀ (l : List Leg) (a : Int) (out : List Vec), (∀ x ∈ l, 1 ≤ x.d) → RowsG lo hi out → RowsG lo hi (legsF f w l a out)
  | [], _, _, _, h => h
  | x :: r, a, out, hl, h => legs_G hf r _ _ (fun y hy => hl y (by simp [hy])) (cuts_G (hl x (by simp)) _ _ (hf x.v) h)
/-- The low windows are windows. -/
theorem lowGo_ne {w v : Vec} (hw : w.m < w.c) : ∀ (r : List Seg) (p : Int) (u l : Vec), Canon r l → (∀ z ∈ r, p < z.t ∨ z.t ≤ w.m) → p < w.c → ∀ b ∈ lowGo w v r p u, b.m < b.c
  | [], p, u, _, _, _, h, b, hb => by
    unfold lowGo at hb
    split at hb
    · cases hb
    · simp at hb; subst hb; exact h
  | x :: r, p, u, l, hc, hz, h, b, hb => by
    unfold lowGo at hb
    split at hb
    · exact lowGo_ne hw r p u x.v hc.2.2 (fun z h => hz z (by simp [h])) h b hb
    · rename_i hs
      have hx := hz x (by simp)
      have hr := lowGo_ne (v := v) hw r x.t x.v x.v hc.2.2 (fun z h => .inl (hc.2.1 z h)) (by omega) b
      split at hb
      · exact hr hb
      · rcases List.mem_cons.1 hb with rfl | hb
        · simp only; omega
        · exact hr hb
theorem lowF_ne {f : List Seg} (hf : mayF f = true) {w : Vec} (hw : w.m < w.c) (v : Vec) : ∀ b ∈ lowF f w v, b.m < b.c :=
  lowGo_ne hw f w.m _ v0 ((mayF_iff f).1 hf).1 (fun z _ => by omega) hw
/-- What is known when there are no errors. -/
structure OkB (f : List Seg) (w : Vec) (l : List Leg) : Prop where
  may : mayF f = true
  win : w.m < w.c
  span : w.c - w.m ≤ 4096
  from_ : farF w.m = false
  to_ : farF w.c = false
  vs : l.any (fun x => !mayV x.v) = false
  ds : l.any badD = false
  len : 0 < l.length ∧ l.length ≤ 16
theorem check_ok {f : List Seg} {w : Vec} {l : List Leg} : (checkF f w l).2 = 0 ↔ OkB f w l := by
  constructor
  · intro h
    unfold checkF at h
    split at h
    · rename_i hm
      split at h
      · cases h
      · rename_i h1
        split at h
        · cases h
        · rename_i h2
          simp only [Bool.or_eq_true, not_or, Bool.not_eq_true] at h2
          have hl : (lengthF l).2 = 0 := by omega
          unfold lengthF at hl
          split at hl
          · cases hl
          · rename_i h3
            simp only [Bool.or_eq_true, not_or, Bool.not_eq_true, decide_eq_false_iff_not] at h3
            exact ⟨hm, by omega, by omega, h2.1.1, h2.1.2, h2.2, h3.1.1, by omega⟩
    · cases h
  · intro h
    have hl : lengthF l = (sumD l, 0) := by
      unfold lengthF
      rw [if_neg]
      have := h.len
      rw [h.ds]; simp only [Bool.false_or, Bool.or_eq_true, decide_eq_true_eq]; omega
    unfold checkF
    rw [if_pos h.may, hl, if_neg (by have := h.win; have := h.span; simp; omega), h.from_, h.to_, h.vs]
    rfl
theorem check_1 {f : List Seg} {w : Vec} {l : List Leg} (h : OkB f w l) : checkF f w l = (sumD l, 0) := by
  have hl : lengthF l = (sumD l, 0) := by
    unfold lengthF
    rw [if_neg]
    have := h.len
    rw [h.ds]; simp only [Bool.false_or, Bool.or_eq_true, decide_eq_true_eq]; omega
  unfold checkF
  rw [if_pos h.may, hl, if_neg (by have := h.win; have := h.span; simp; omega), h.from_, h.to_, h.vs]
  rfl
theorem begins_err (f : List Seg) (w : Vec) (l : List Leg) : (beginsF f w l).2 = (checkF f w l).2 := by
  unfold beginsF
  split
  · rfl
  · rename_i h
    simp only at h ⊢
    omega
theorem OkB.pos {f : List Seg} {w : Vec} {l : List Leg} (h : OkB f w l) : ∀ x ∈ l, 1 ≤ x.d ∧ x.d ≤ 4096 := fun x hx => by
  have := List.any_eq_false.1 h.ds x hx
  simp [badD] at this
  omega
theorem begins_is {f : List Seg} {w : Vec} {l : List Leg} (h : OkB f w l) : RowsG w.m (w.c + 1) (beginsF f w l).1 ∧ ∀ t, memW (beginsF f w l).1 t ↔ w.m ≤ t ∧ t + sumD l ≤ w.c ∧ okL f w l 0 t := by
  have hs : 0 ≤ sumD l := by
    have := h.pos
    clear h
    induction l with
    | nil => simp [sumD]
    | cons x r ih => have := ih (fun y hy => this y (by simp [hy])); have := this; simp only [sumD]; have := ‹∀ y ∈ x :: r, _› x (by simp); omega
  unfold beginsF
  rw [check_1 h]
  by_cases hn : w.c - w.m < sumD l
  · rw [if_pos (.inr hn)]
    refine ⟨trivial, fun t => ?_⟩
    rw [memW_nil]
    constructor
    · exact False.elim
    · intro ⟨a, b, _⟩; omega
  · rw [if_neg (by simp only; omega)]
    have hw := h.win
    refine ⟨legs_G (fun v => lowF_ne h.may hw v) l 0 _ (fun x hx => (h.pos x hx).1) ⟨Int.le_refl _, by simp only; omega, by simp only; omega, trivial⟩, fun t => ?_⟩
    rw [memW_legs, memW_cons, memW_nil]
    simp only [inW, or_false]
    constructor
    · intro ⟨⟨a, b⟩, c⟩; exact ⟨a, by omega, c⟩
    · intro ⟨a, b, c⟩; exact ⟨⟨a, by omega⟩, c⟩
end Go.Proofs.Ytddbnncimggogaa.V
end
section
set_option linter.unusedSimpArgs false
set_option linter.unusedVariables false
/- Step functions in windows, in plain Lean. -/
namespace Go.Proofs.Ytddbnncimggogaa.V
open Go Go.Proofs
def insW (a z : Int) (r : List Seg) : List Seg := r.filter fun x => decide (a < x.t) && decide (x.t < z)
theorem lowGo_ins (w v : Vec) : ∀ (r : List Seg) (p : Int) (u : Vec), lowGo w v r p u = lowGo w v (insW w.m w.c r) p u
  | [], _, _ => rfl
  | x :: r, p, u => by
    unfold insW
    by_cases h : x.t ≤ w.m ∨ w.c ≤ x.t
    · rw [List.filter_cons_of_neg (by simp; omega), lowGo, if_pos h]; exact lowGo_ins w v r p u
    · rw [List.filter_cons_of_pos (by simp; omega), lowGo, lowGo, if_neg h, if_neg h]
      have := lowGo_ins w v r x.t x.v
      unfold insW at this
      rw [← this]
theorem atP_late2 (v : Vec) : ∀ (f : List Seg) (t : Int), (∀ x ∈ f, t < x.t) → atP v f t = v
  | [], _, _ => rfl
  | x :: r, t, h => by
    have := h x (by simp)
    simp only [atP, List.foldl_cons]
    rw [if_neg (by omega)]
    exact atP_late2 v r t (fun y hy => h y (by simp [hy]))
/-- From a time on, a function is its value there and what comes later. -/
theorem atP_from (a z : Int) : ∀ (f : List Seg) (v : Vec) (s : Int), (f.map (·.t)).Pairwise (· < ·) → a ≤ s → s < z → atP v f s = atP (atP v f a) (insW a z f) s
  | [], _, _, _, _, _ => rfl
  | x :: r, v, s, hp, h1, h2 => by
    simp only [List.map_cons, List.pairwise_cons, List.mem_map, forall_exists_index, and_imp, forall_apply_eq_imp_iff₂] at hp
    by_cases hx : x.t ≤ a
    · have ih := atP_from a z r x.v s hp.2 h1 h2
      unfold insW
      rw [List.filter_cons_of_neg (by simp; omega)]
      simp only [atP, List.foldl_cons] at ih ⊢
      rw [if_pos (by omega), if_pos hx]
      exact ih
    · have hr : ∀ y ∈ r, a < y.t := fun y hy => by have := hp.1 y hy; omega
      have e : atP v (x :: r) a = v := atP_late2 v _ a (fun y hy => by rcases List.mem_cons.1 hy with rfl | hy; omega; exact hr y hy)
      rw [e]
      have key : ∀ (g : List Seg) (w : Vec), (∀ y ∈ g, a < y.t) → atP w g s = atP w (insW a z g) s := by
        intro g
        induction g with
        | nil => intro _ _; rfl
        | cons y g ih =>
          intro w hg
          have hy := hg y (by simp)
          unfold insW
          by_cases hyz : y.t < z
          · rw [List.filter_cons_of_pos (by simp; omega)]
            simp only [atP, List.foldl_cons]
            exact ih _ (fun q hq => hg q (by simp [hq]))
          · rw [List.filter_cons_of_neg (by simp; omega)]
            simp only [atP, List.foldl_cons]
            rw [if_neg (by omega)]
            exact ih _ (fun q hq => hg q (by simp [hq]))
      exact key _ v (fun y hy => by rcases List.mem_cons.1 hy with rfl | hy; omega; exact hr y hy)
theorem insW_up (a z : Int) {f : List Seg} (h : (f.map (·.t)).Pairwise (· < ·)) : ((insW a z f).map (·.t)).Pairwise (· < ·) ∧ ∀ x ∈ insW a z f, a < x.t ∧ x.t < z := by
  refine ⟨?_, fun x hx => ?_⟩
  · exact h.sublist (List.Sublist.map _ (List.filter_sublist))
  · unfold insW at hx; simp at hx; omega
/-- The windows in which a function is not at least a vector. -/
theorem lowGo_mem (w v : Vec) : ∀ (r : List Seg) (p : Int) (u : Vec), (r.map (·.t)).Pairwise (· < ·) → (∀ x ∈ r, w.m < x.t ∧ x.t < w.c ∧ p < x.t) → p < w.c → ∀ s, memW (lowGo w v r p u) s ↔ p ≤ s ∧ s < w.c ∧ leW v (atP u r s) = false
  | [], p, u, _, _, hpz, s => by
    simp only [lowGo]
    split
    · rename_i h
      simp only [memW_nil, atP, List.foldl_nil, h]; simp
    · rename_i h
      simp only [memW_cons, memW_nil, or_false, inW, atP, List.foldl_nil, and_congr_right_iff]
      intro _ ; simp [h]
  | x :: r, p, u, hp, hx, hpz, s => by
    simp only [List.map_cons, List.pairwise_cons, List.mem_map, forall_exists_index, and_imp, forall_apply_eq_imp_iff₂] at hp
    obtain ⟨h1, h2, h3⟩ := hx x (by simp)
    have ih := lowGo_mem w v r x.t x.v hp.2 (fun y hy => ⟨(hx y (by simp [hy])).1, (hx y (by simp [hy])).2.1, hp.1 y hy⟩) h2 s
    rw [lowGo, if_neg (by omega)]
    have hat : atP u (x :: r) s = if x.t ≤ s then atP x.v r s else u := by
      by_cases hs : x.t ≤ s
      · rw [if_pos hs]; simp only [atP, List.foldl_cons]; rw [if_pos hs]
      · rw [if_neg hs, atP_late2 u _ s (fun y hy => ?_)]
        rcases List.mem_cons.1 hy with rfl | hy
        · omega
        · have := hp.1 y hy; omega
    rw [hat]
    split
    · rename_i h
      rw [ih]
      by_cases hs : x.t ≤ s
      · rw [if_pos hs]
        constructor
        · intro ⟨a, b, c⟩; exact ⟨by omega, b, c⟩
        · intro ⟨a, b, c⟩; exact ⟨hs, b, c⟩
      · rw [if_neg hs, h]; simp; omega
    · rename_i h
      rw [memW_cons, ih]
      by_cases hs : x.t ≤ s
      · rw [if_pos hs]
        constructor
        · rintro (⟨a, b⟩ | ⟨a, b, c⟩)
          · simp only at b; omega
          · exact ⟨by omega, b, c⟩
        · intro ⟨a, b, c⟩; exact .inr ⟨hs, b, c⟩
      · rw [if_neg hs]
        constructor
        · rintro (⟨a, b⟩ | ⟨a, b, c⟩)
          · exact ⟨a, by simp only at b; omega, by simpa using h⟩
          · omega
        · intro ⟨a, b, c⟩; exact .inl ⟨a, by simp only; omega⟩
theorem lowF_mem {f : List Seg} (hf : mayF f = true) {w : Vec} (hw : w.m < w.c) (v : Vec) (s : Int) : memW (lowF f w v) s ↔ w.m ≤ s ∧ s < w.c ∧ leW v (atF f s) = false := by
  have hu := ((mayF_iff f).1 hf).1.up
  unfold lowF
  rw [lowGo_ins]
  obtain ⟨hu', hin⟩ := insW_up w.m w.c hu
  rw [lowGo_mem w v (insW w.m w.c f) w.m (atF f w.m) hu' (fun x hx => ⟨(hin x hx).1, (hin x hx).2, (hin x hx).1⟩) hw s]
  constructor
  · intro ⟨a, b, c⟩
    refine ⟨a, b, ?_⟩
    rw [← c]; congr 1
    exact atP_from w.m w.c f v0 s hu a b
  · intro ⟨a, b, c⟩
    refine ⟨a, b, ?_⟩
    rw [← c]; congr 1
    exact (atP_from w.m w.c f v0 s hu a b).symm
end Go.Proofs.Ytddbnncimggogaa.V
end
section
set_option linter.unusedSimpArgs false
set_option linter.unusedVariables false
/- A frame rule: what a call knows nothing of stays as it was. -/
namespace Go.Proofs.Ytddbnncimggogaa.V
open Go Go.RowKit
variable {P : Program} {Z : Im}
theorem own_ins {st : St} {b : Nat} {o : AObj} {i : Nat} (h : st.own i) : (st.ins b o).own i := by
  rcases h with ⟨x, h⟩ | ⟨k, h, e⟩
  · by_cases hi : i = b
    · exact .inl ⟨o, by simp [St.ins, hi]⟩
    · exact .inl ⟨x, by simp [St.ins, hi, h]⟩
  · exact .inr ⟨k, h, e⟩
theorem Rel.unframe {B : Base} {I : Im} {st : St} {W : World} {b : Nat} {o : AObj} (h : Rel B I (st.ins b o) W) (hb : st.objs b = none) : Rel ⟨st.own, W, I⟩ I st W := by
  have hn : ∀ {i : Nat} {x : AObj}, st.objs i = some x → (st.ins b o).objs i = some x := by
    intro i x e
    have : ¬ i = b := fun hi => by rw [hi, hb] at e; cases e
    simp [St.ins, this, e]
  have hk : ∀ {k : Tk}, st.live k = true → ¬ k.b = b ∧ st.objs k.b = none := by
    intro k hl
    obtain ⟨_, _, _, _, _, e⟩ := h.tk k hl
    simp only [St.ins] at e
    split at e
    · cases e
    · rename_i hne; exact ⟨hne, e⟩
  exact {
    cells := fun i cs e => h.cells i cs (hn e)
    raw := fun i x e => h.raw i x (hn e)
    imm := h.imm
    sep := fun i x e => h.sep i x (hn e)
    tk := fun k hl => by
      obtain ⟨arr, ty, e1, e2, e3, _⟩ := h.tk k hl
      exact ⟨arr, ty, e1, e2, e3, (hk hl).2⟩
    tk1 := h.tk1
    upd := Upd.refl _ _
    own := fun i hi => .inl hi
    le := Im.le.refl _
    new := fun i x hi => .inl hi }
theorem Rel.reframe {B : Base} {I J : Im} {st st' : St} {W W' : World} {b : Nat} {o : AObj} (h : Rel B I (st.ins b o) W) (hb : st.objs b = none) (h' : Rel ⟨st.own, W, I⟩ J st' W') : st'.objs b = none ∧ Rel B J (st'.ins b o) W' := by
  have hself : (st.ins b o).objs b = some o := by simp [St.ins]
  have hlt := h.objs_lt hself
  have hno : ¬ st.own b := by
    rintro (⟨x, e⟩ | ⟨k, hl, e⟩)
    · rw [hb] at e; cases e
    · obtain ⟨_, _, _, _, _, e2⟩ := h.tk k hl
      rw [e, hself] at e2; cases e2
  have hno' : ¬ st'.own b := fun hx => by
    rcases h'.own b hx with e | e
    · exact hno e
    · have : W.heap.size ≤ b := e
      omega
  have hheap : W'.heap[b]? = W.heap[b]? := h'.upd.same b hlt hno
  have hJ : ∀ x, J b x = none := by
    intro x
    cases e : J b x with
    | none => rfl
    | some v =>
      rcases h'.new b x (by rw [e]; simp) with q | q | q
      · exact absurd (h.sep b o hself x) q
      · exact absurd q hno
      · have : W.heap.size ≤ b := q
        omega
  have hn' : st'.objs b = none := by
    cases e : st'.objs b with
    | none => rfl
    | some x => exact absurd (.inl ⟨x, e⟩) hno'
  refine ⟨hn', ?_⟩
  exact {
    cells := fun i cs e => by
      simp only [St.ins] at e
      split at e
      · rename_i hi
        subst hi
        cases e
        obtain ⟨vs, ty, e1, e2⟩ := h.cells i cs hself
        exact ⟨vs, ty, hheap.trans e1, RepL.mono h'.le _ _ e2⟩
      · exact h'.cells i cs e
    raw := fun i x e => by
      simp only [St.ins] at e
      split at e
      · rename_i hi
        subst hi
        cases e
        exact hheap.trans (h.raw i x hself)
      · exact h'.raw i x e
    imm := h'.imm
    sep := fun i x e => by
      simp only [St.ins] at e
      split at e
      · rename_i hi; subst hi; exact hJ
      · exact h'.sep i x e
    tk := fun k hl => by
      obtain ⟨arr, ty, e1, e2, e3, e4⟩ := h'.tk k hl
      have hne : ¬ k.b = b := fun e => hno' (.inr ⟨k, hl, e⟩)
      exact ⟨arr, ty, e1, e2, e3, by simp only [St.ins]; rw [if_neg hne]; exact e4⟩
    tk1 := h'.tk1
    upd := h.upd.trans (h'.upd.mono fun k _ hk => h.own k (own_ins hk))
    own := fun i hi => by
      have key : st'.own i → B.X i ∨ B.W.heap.size ≤ i := fun hx => by
        rcases h'.own i hx with e | e
        · exact h.own i (own_ins e)
        · have : W.heap.size ≤ i := e
          exact .inr (Nat.le_trans h.upd.size this)
      rcases hi with ⟨x, e⟩ | ⟨k, hl, e⟩
      · simp only [St.ins] at e
        split at e
        · rename_i hi; subst hi; exact h.own i (.inl ⟨o, hself⟩)
        · exact key (.inl ⟨x, e⟩)
      · exact key (.inr ⟨k, hl, e⟩)
    le := h.le.trans h'.le
    new := fun i x hi => by
      rcases h'.new i x hi with q | q | q
      · exact h.new i x q
      · exact .inr (h.own i (own_ins q))
      · have : W.heap.size ≤ i := q
        exact .inr (.inr (Nat.le_trans h.upd.size this)) }
theorem VCalls.frame {f : Nat} {args : List AV} {st : St} {K : AV → St → Prop} (h : VCalls P Z f args st K) (b : Nat) (o : AObj) (hb : st.objs b = none) : VCalls P Z f args (st.ins b o) (fun v s => ∃ s', K v s' ∧ s'.objs b = none ∧ s = s'.ins b o) :=
  ⟨h.1, fun B I W vs hz hr ha => (h.2 _ I W vs hz (hr.unframe hb) ha).mono fun e W' ⟨u, J, st', v, h1, h2, h3, h4, h5⟩ => by
    obtain ⟨q1, q2⟩ := hr.reframe hb h3
    exact ⟨u, J, st'.ins b o, v, h1, h2, q2, h4, st', h5, q1, rfl⟩⟩
theorem VYield.frame {l : Nat} {args : List AV} {st : St} {K : AV → St → Prop} (h : VYield P Z l args st K) (b : Nat) (o : AObj) (hb : st.objs b = none) : VYield P Z l args (st.ins b o) (fun v s => ∃ s', K v s' ∧ s'.objs b = none ∧ s = s'.ins b o) :=
  fun B I W vs hz hr ha => YieldAt.mono' (h _ I W vs hz (hr.unframe hb) ha) fun e W' ⟨u, J, st', v, h1, h2, h3, h4, h5⟩ => by
    obtain ⟨q1, q2⟩ := hr.reframe hb h3
    exact ⟨u, J, st'.ins b o, v, h1, h2, q2, h4, st', h5, q1, rfl⟩
/-- A state that is smaller has no more objects. -/
theorem St.le.none {s t : St} (h : s.le t) {b : Nat} (hb : t.objs b = none) : s.objs b = none := by
  cases e : s.objs b with
  | none => rfl
  | some x => rw [h.objs b x e] at hb; cases hb
end Go.Proofs.Ytddbnncimggogaa.V
end
section
set_option linter.unusedSimpArgs false
set_option linter.unusedVariables false
/- Closures whose objects are constants; iterators; ranges over them. -/
namespace Go.Proofs.Ytddbnncimggogaa.V
open Go Go.RowKit
variable {P : Program} {Z : Im}
/-! A pointer to an object becomes a pointer to a constant, in closures and structs. -/
mutual
def AV.sub (b : Nat) (x : AV) : AV → AV
  | .ptr b' o => if b' = b then .iptr x o else .ptr b' o
  | .clo f fs cs => .clo f (AV.subL b x fs) (AV.subL b x cs)
  | .agg cs => .agg (AV.subL b x cs)
  | .tup cs => .tup (AV.subL b x cs)
  | v => v
def AV.subL (b : Nat) (x : AV) : List AV → List AV
  | [] => []
  | a :: r => AV.sub b x a :: AV.subL b x r
end
mutual
theorem Rep.sub {J : Im} {b : Nat} {x : AV} (hp : ∀ o v, Rep J (.ptr b o) v → Rep J (.iptr x o) v) : ∀ (a : AV) (v : Value), Rep J a v → Rep J (AV.sub b x a) v
  | .ptr b' o, v, h => by
    simp only [AV.sub]
    split
    · rename_i e; subst e; exact hp o v h
    · exact h
  | .clo f fs cs, v, h => by
    simp only [AV.sub, Rep] at h ⊢
    obtain ⟨us, vs, e, h1, h2⟩ := h
    exact ⟨us, vs, e, RepL.sub hp fs _ h1, RepL.sub hp cs _ h2⟩
  | .agg cs, v, h => by
    simp only [AV.sub, Rep] at h ⊢
    obtain ⟨vs, e, h1⟩ := h
    exact ⟨vs, e, RepL.sub hp cs _ h1⟩
  | .tup cs, v, h => by
    simp only [AV.sub, Rep] at h ⊢
    obtain ⟨vs, e, h1⟩ := h
    exact ⟨vs, e, RepL.sub hp cs _ h1⟩
  | .undef, _, h => h
  | .no, _, h => h
  | .int _ _, _, h => h
  | .bool _, _, h => h
  | .str _, _, h => h
  | .nilp, _, h => h
  | .iptr _ _, _, h => h
  | .sl _ _, _, h => h
  | .osl _ _ _, _, h => h
  | .yld _, _, h => h
  | .nilf, _, h => h
  | .mp _, _, h => h
  | .nilm, _, h => h
theorem RepL.sub {J : Im} {b : Nat} {x : AV} (hp : ∀ o v, Rep J (.ptr b o) v → Rep J (.iptr x o) v) : ∀ (l : List AV) (vs : List Value), RepL J l vs → RepL J (AV.subL b x l) vs
  | [], [], _ => trivial
  | a :: r, v :: vs, h => ⟨Rep.sub hp a v h.1, RepL.sub hp r vs h.2⟩
  | [], _ :: _, h => h.elim
  | _ :: _, [], h => h.elim
end
section
variable {B : Base} {I : Im} {st : St} {W : World}
theorem rel_freezeO (h : Rel B I st W) {sz b : Nat} (hp : 0 < sz) {x : AV} (hob : st.objs b = some (.cells x.cells)) (hk : okEl sz x = true) :
    ∃ J, I.le J ∧ Rel B J (st.del b) W ∧ ∀ o v, Rep J (.ptr b o) v → Rep J (.iptr x o) v := by
  obtain ⟨vs, vty, hb, hr⟩ := h.cells b _ hob
  have hdel := h.weaken (St.del_le st b)
  obtain ⟨hle, hrel⟩ := hdel.know (lo := 0) (hi := sz) hb (by simp [St.del]) (fun o _ _ => h.sep b _ hob o) (fun k hk' e => by
    obtain ⟨_, _, _, _, _, r3⟩ := h.tk k hk'
    rw [e, hob] at r3; cases r3) (h.own b (.inl ⟨_, hob⟩))
  refine ⟨_, hle, hrel, fun oo v hv => ?_⟩
  simp only [Rep] at hv ⊢
  have hx := hk
  simp only [okEl, Bool.and_eq_true, beq_iff_eq] at hx
  have hl := hr.length
  have hrr : RepR (I.row b 0 sz vs) sz [x] b 0 := by
    refine RepR.of_flat hp (fun y hy => by rcases List.mem_singleton.1 hy with rfl; exact hk) (vs := vs.toList) ?_ (fun j v hj => ?_)
    · simpa using hr.mono hle
    · have hj2 := (List.getElem?_eq_some_iff.1 hj).1
      unfold Im.row
      rw [if_pos ⟨rfl, by omega, by omega⟩, Nat.zero_add]
      simpa using hj
  simp only [RepR] at hrr
  obtain ⟨⟨u, h1, h2, h3⟩, _⟩ := hrr
  exact ⟨b, 0, u, by rw [Nat.zero_add]; exact hv, h1, h3⟩
end
/-- An object becomes a constant. -/
theorem Wk.fz (st : St) {b : Nat} {x : AV} (hob : st.objs b = some (.cells x.cells)) (hk : okEl x.cells.length x = true) (hp : 0 < x.cells.length) (l : List AV) : Wk st l (st.del b) (AV.subL b x l) := fun B I W vs hr ha => by
  obtain ⟨J, q1, q2, q3⟩ := rel_freezeO hr hp hob hk
  exact ⟨J, q1, q2, RepL.sub q3 l vs (RepL.mono q1 l vs ha)⟩
theorem VCalls.fz {f : Nat} {args : List AV} {st s : St} {K : AV → St → Prop} {v : AV} {b : Nat} {x : AV} (h : VCalls P Z f args st (fun r t => r = v ∧ t = s)) (hob : s.objs b = some (.cells x.cells)) (hk : okEl x.cells.length x = true) (hp : 0 < x.cells.length)
    (hK : K (AV.sub b x v) (s.del b)) : VCalls P Z f args st K := h.wk (by
  rintro _ _ ⟨rfl, rfl⟩
  exact ⟨_, _, Wk.fz _ hob hk hp [_], hK⟩)
theorem St.le.ins {s t : St} (h : s.le t) (b : Nat) (o : AObj) : (s.ins b o).le (t.ins b o) := by
  refine ⟨fun i x e => ?_, fun k hk => h.live k hk⟩
  simp only [St.ins] at e ⊢
  split
  · rename_i hi; rw [if_pos hi] at e; exact e
  · rename_i hi; rw [if_neg hi] at e; exact h.objs i x e
/-! Iterators. -/
/-- What a round of a range over a function leaves. -/
def YY (I : Nat → St → Prop) (E : St → Prop) (k : Nat) (v : AV) (s : St) : Prop := (v = .bool true ∧ ∃ S', I (k + 1) S' ∧ S'.le s) ∨ (v = .bool false ∧ ∃ S', E S' ∧ S'.le s)
/-- A function that yields the elements of a list, one behind the other, until it is told to stop. -/
def VIter (P : Program) (gf : Nat) (fs cs : List AV) (xs : List (List AV)) : Prop :=
  ∀ (Y : Im) (l : Nat) (I : Nat → St → Prop) (E : St → Prop) (S0 : St), I 0 S0 → (∀ k (h : k < xs.length) S, I k S → VYield P Y l xs[k] S (YY I E k)) →
    VCalls P Y gf (fs ++ [.yld l] ++ cs) S0 (fun r s => r = .tup [] ∧ ∃ S', (I xs.length S' ∨ E S') ∧ S'.le s)
def xcode : Exit → Option Code
  | .ret => some .ret
  | .exit id => some (.exit id)
  | .goto t => some (.goto t)
  | _ => none
theorem jump_x {Q : Exit → Fr → St → Prop} {e : Exit} {c : Code} (h : xcode e = some c) (fr : Fr) (st : St) : jumpQ Q (some c) fr st = Q e fr st := by
  cases e <;> simp only [xcode, Option.some.injEq, reduceCtorEq] at h <;> subst h <;> rfl
/-- The end of a round, for the invariant. -/
def rQ (I : Nat → St → Prop) (E : Exit → St → Prop) (k : Nat) (F : St → St) (l : Nat) (r : Loop) : Exit → Fr → St → Prop
  | .normal, _, st => ∃ S', I (k + 1) S' ∧ S'.objs l = none ∧ ((F S').ins l (lobj r .busy none)).le st
  | e, _, st => (∃ S', E e S' ∧ S'.objs l = none ∧ ((F S').ins l (lobj r .busy none)).le st) ∧ (xcode e).isSome = true
theorem rq_normal (I : Nat → St → Prop) (E : Exit → St → Prop) (k : Nat) (F : St → St) (l : Nat) (r : Loop) (fr : Fr) (st : St) : rQ I E k F l r .normal fr st = ∃ S', I (k + 1) S' ∧ S'.objs l = none ∧ ((F S').ins l (lobj r .busy none)).le st := rfl
theorem le_ins_self {s st : St} {b : Nat} {x y : AObj} (h : (s.ins b x).le st) : (s.ins b y).le (st.ins b y) := by
  refine ⟨fun i o e => ?_, fun k hk => h.live k hk⟩
  simp only [St.ins] at e ⊢
  split
  · rename_i hi; rw [if_pos hi] at e; exact e
  · rename_i hi; rw [if_neg hi] at e; exact h.objs i o (by simp only [St.ins]; rw [if_neg hi]; exact e)
/-- The walk of a round, at any place of the list. -/
theorem iter_call {ps : List Nat} {asg body : VCode} {fr : Fr} {st : St} {gf : Nat} {fs cs : List AV} {xs : List (List AV)} {Y : Im} {l : Nat} {r : Loop} (hit : VIter P gf fs cs xs) (hps : ∀ x ∈ xs, x.length = ps.length) (I : Nat → St → Prop) (E : Exit → St → Prop) (F : St → St) (h0 : I 0 st)
    (hl : st.objs l = none)
    (hyY : ∀ args st' K, args.length = ps.length → st'.objs l = some (lobj r .ready none) →
        vwp P asg Y (some l) (fun e fr1 st1 => e = .normal ∧ st1.objs l = some (lobj r .ready none) ∧ vwp P body Y (some l) (roundQ l r K) fr1 (st1.ins l (lobj r .busy none))) (argsFr ps args fr) st' → VYield P Y l args st' K)
    (hround : ∀ k (h : k < xs.length) S, I k S → S.objs l = none → vwp P asg Y (some l) (fun e fr1 st1 => e = .normal ∧ st1.objs l = some (lobj r .ready none) ∧ vwp P body Y (some l) (rQ I E k F l r) fr1 (st1.ins l (lobj r .busy none))) (argsFr ps xs[k] fr) ((F S).ins l (lobj r .ready none))) :
    VCalls P Y gf (fs ++ [.yld l] ++ cs) ((F st).ins l (lobj r .ready none)) (fun _ s2 => (∃ S', I xs.length S' ∧ S'.objs l = none ∧ s2 = (F S').ins l (lobj r .ready none)) ∨ ∃ e c S', xcode e = some c ∧ E e S' ∧ S'.objs l = none ∧ s2 = (F S').ins l (lobj r .done (some c))) := by
  refine VCalls.wk (hit Y l (fun k s => ∃ S, I k S ∧ S.objs l = none ∧ s = (F S).ins l (lobj r .ready none)) (fun s => ∃ e c S, xcode e = some c ∧ E e S ∧ S.objs l = none ∧ s = (F S).ins l (lobj r .done (some c))) _ ⟨st, h0, hl, rfl⟩ ?_) ?_
  · rintro k hk _ ⟨S, hI, hS, rfl⟩
    refine hyY _ _ _ (hps _ (List.getElem_mem hk)) (by simp [St.ins]) ?_
    refine vwp_mono ?_ (hround k hk S hI hS)
    rintro e fr1 st1 ⟨rfl, h1, h2⟩
    refine ⟨rfl, h1, vwp_mono ?_ h2⟩
    rintro e fr2 st2 hq
    have hx : ∀ {S' : St}, ((F S').ins l (lobj r .busy none)).le st2 → st2.objs l = some (lobj r .busy none) := fun h => h.objs l _ (by simp [St.ins])
    cases e with
    | normal =>
      obtain ⟨S', a1, a2, a3⟩ := hq
      exact ⟨hx a3, .inl ⟨rfl, _, ⟨S', a1, a2, rfl⟩, le_ins_self a3⟩⟩
    | ret =>
      obtain ⟨⟨S', a1, a2, a3⟩, _⟩ := hq
      exact ⟨hx a3, .inr ⟨rfl, _, ⟨.ret, .ret, S', rfl, a1, a2, rfl⟩, le_ins_self a3⟩⟩
    | exit id =>
      obtain ⟨⟨S', a1, a2, a3⟩, _⟩ := hq
      exact ⟨hx a3, .inr ⟨rfl, _, ⟨.exit id, .exit id, S', rfl, a1, a2, rfl⟩, le_ins_self a3⟩⟩
    | goto id =>
      obtain ⟨⟨S', a1, a2, a3⟩, _⟩ := hq
      exact ⟨hx a3, .inr ⟨rfl, _, ⟨.goto id, .goto id, S', rfl, a1, a2, rfl⟩, le_ins_self a3⟩⟩
    | _ => obtain ⟨_, h⟩ := hq; cases h
  · rintro v s ⟨rfl, S', h, hle⟩
    refine ⟨_, S', Wk.le hle _, ?_⟩
    exact h
/-- A range over an iterator. -/
theorem rng_iter {g : VE} {ps : List Nat} {asg body : VCode} {Q : Exit → Fr → St → Prop} {fr : Fr} {st : St} {gf : Nat} {fs cs : List AV} {xs : List (List AV)} (hg : g.ev fr = .clo gf fs cs) (hit : VIter P gf fs cs xs) (hps : ∀ x ∈ xs, x.length = ps.length)
    (I : Nat → St → Prop) (E : Exit → St → Prop) (h0 : I 0 st)
    (hround : ∀ Y l D r, Z.le Y → ¬ l = D → ¬ D = l → ∀ k (h : k < xs.length) S, I k S → S.objs l = none → S.objs D = none →
      vwp P asg Y (some l) (fun e fr1 st1 => e = .normal ∧ st1.objs l = some (lobj r .ready none) ∧ vwp P body Y (some l) (rQ (fun k S => I k S ∧ S.objs D = none) (fun e S => E e S ∧ S.objs D = none) k (fun S => S.ins D dobj) l r) fr1 (st1.ins l (lobj r .busy none))) (argsFr ps xs[k] fr) ((S.ins D dobj).ins l (lobj r .ready none)))
    (hend : ∀ D l o S, ¬ l = D → ¬ D = l → I xs.length S → S.objs l = none → S.objs D = none → Q .normal { fr with d := D :: fr.d } ((S.ins D dobj).ins l o))
    (hout : ∀ e D l o S, ¬ l = D → ¬ D = l → E e S → S.objs l = none → S.objs D = none → Q e { fr with d := D :: fr.d } ((S.ins D dobj).ins l o)) : vwp P (.rng g ps asg body) Z none Q fr st := by
  refine rng_of hg (fun Y l D r hzy hl hD hlD hyY => ?_)
  have hDl : ¬ D = l := fun e => hlD e.symm
  refine (iter_call hit hps (fun k S => I k S ∧ S.objs D = none) (fun e S => E e S ∧ S.objs D = none) (fun S => S.ins D dobj) ⟨h0, hD⟩ hl hyY (fun k hk S hI hS => hround Y l D r hzy hlD hDl k hk S hI.1 hS hI.2)).mono ?_
  rintro v s (⟨S', ⟨a1, a2⟩, a3, rfl⟩ | ⟨e, c, S', hc, ⟨a1, a2⟩, a3, rfl⟩)
  · exact ⟨.ready, none, by simp, by simp [St.ins], by rw [jq_none, ins_ins]; exact hend D l _ S' hlD hDl a1 a3 a2⟩
  · refine ⟨.done, some c, by simp, by simp [St.ins], ?_⟩
    rw [jump_x hc, ins_ins]
    exact hout e D l _ S' hlD hDl a1 a3 a2
/-! Functions with ranges over functions: what is left at the end. -/
def DS (st S : St) (ds : List Nat) : Prop := st.le S ∧ ds.Nodup ∧ ∀ D ∈ ds, S.objs D = some dobj ∧ st.objs D = none
theorem DS.nil {st S : St} (h : st.le S) : DS st S [] := ⟨h, List.nodup_nil, fun _ hm => absurd hm List.not_mem_nil⟩
theorem le_ins_new {s t : St} (h : s.le t) {b : Nat} (o : AObj) (hb : s.objs b = none) : s.le (t.ins b o) := by
  refine ⟨fun i x e => ?_, fun k hk => h.live k hk⟩
  simp only [St.ins]
  split
  · rename_i hi; subst hi; rw [hb] at e; cases e
  · exact h.objs i x e
theorem DS.cons {st S : St} {ds : List Nat} (h : DS st S ds) {D : Nat} (hD : S.objs D = none) : DS st (S.ins D dobj) (D :: ds) := by
  obtain ⟨h1, h2, h3⟩ := h
  have hst := h1.none hD
  refine ⟨le_ins_new h1 _ hst, List.nodup_cons.2 ⟨fun hm => (by rw [(h3 D hm).1] at hD; cases hD), h2⟩, fun E hE => ?_⟩
  rcases List.mem_cons.1 hE with rfl | hE
  · exact ⟨by simp [St.ins], hst⟩
  · have hne : ¬ E = D := fun e => by rw [← e, (h3 E hE).1] at hD; cases hD
    exact ⟨by simp only [St.ins]; rw [if_neg hne]; exact (h3 E hE).1, (h3 E hE).2⟩
theorem argsFr1_t (p : Nat) (a : AV) (fr : Fr) (i : Nat) : (argsFr [p] [a] fr).t i = if i = p then a else fr.t i := rfl
theorem argsFr1_d (p : Nat) (a : AV) (fr : Fr) : (argsFr [p] [a] fr).d = [] := rfl
/-- The collected objects of a state, as the end of a function asks for them. -/
theorem DS.fin {st S s' : St} {ds : List Nat} (h : DS st S ds) (hs : S.le s') : ∀ D ∈ ds, s'.objs D = some dobj ∧ st.objs D = none := fun D hD => ⟨hs.objs D _ (h.2.2 D hD).1, (h.2.2 D hD).2⟩
end Go.Proofs.Ytddbnncimggogaa.V
end
section
set_option linter.unusedSimpArgs false
set_option linter.unusedVariables false
/- More loops. -/
namespace Go.Proofs.Ytddbnncimggogaa.V
open Go Go.RowKit
variable {P : Program} {Z : Im}
/-- A counted loop that leaves the state as it was. -/
theorem loopp_of {b : VCode} {ro : Option Nat} {Q : Exit → Fr → St → Prop} {fr0 : Fr} {st0 : St} {l : List Nat} {n : Bool} (hl : asgL b = l) (hd : noR b = n) {len : Nat} (hn : len ≤ 1000000000000) (I : Nat → Fr → Prop) (h0 : I 0 fr0)
    (hs : ∀ k fr, k < len → IntKind.i64.wrap ((k : Int) + 1) = (k : Int) + 1 → (∀ i, l.contains i = false → fr.t i = fr0.t i) → (n = true → fr.d = fr0.d) → I k fr → vwp P b Z ro (thenQ (fun fr' st' => st0.le st' ∧ I (k + 1) fr') Q) fr st0)
    (he : ∀ fr, (∀ i, l.contains i = false → fr.t i = fr0.t i) → (n = true → fr.d = fr0.d) → I len fr → vwp P b Z ro (thenQ (fun _ _ => False) Q) fr st0) : vwp P (.loop b) Z ro Q fr0 st0 := by
  refine loopf_of hl hd hn (fun k fr s => s = st0 ∧ I k fr) ⟨rfl, h0⟩ ?_ ?_
  · rintro k fr s hk hw hf hdd ⟨rfl, hI⟩
    refine vwp_mono (fun e fr2 st2 q => ?_) (hs k fr hk hw hf hdd hI)
    cases e <;> simp only [thenQ] at q ⊢
    · exact ⟨_, q.1, rfl, q.2⟩
    all_goals exact q
  · rintro fr s hf hdd ⟨rfl, hI⟩
    exact he fr hf hdd hI
end Go.Proofs.Ytddbnncimggogaa.V
end
section
set_option linter.unusedSimpArgs false
set_option linter.unusedVariables false
/- The compiled functions of the package span (printed by Print.lean of this work). -/
namespace Go.Proofs.Ytddbnncimggogaa.V
open Go Go.Proofs
end Go.Proofs.Ytddbnncimggogaa.V
end
section
set_option linter.unusedSimpArgs false
set_option linter.unusedVariables false
/- What the package span's functions compute: in, runs, over, Low. -/
namespace Go.Proofs.Ytddbnncimggogaa.V
open Go Go.Proofs
set_option maxRecDepth 100000
set_option maxHeartbeats 4000000
end Go.Proofs.Ytddbnncimggogaa.V
end
section
set_option linter.unusedSimpArgs false
set_option linter.unusedVariables false
/- What the package span's functions compute: over, least, Low. -/
namespace Go.Proofs.Ytddbnncimggogaa.V
open Go Go.Proofs
set_option maxRecDepth 100000
set_option maxHeartbeats 4000000
theorem VCalls.z {P : Program} {Z Y : Im} {f : Nat} {args : List AV} {st : St} {K : AV → St → Prop} (h : VCalls P Z f args st K) (hz : Z.le Y) : VCalls P Y f args st K :=
  ⟨h.1, fun B I W vs hy hr ha => h.2 B I W vs (hz.trans hy) hr ha⟩
end Go.Proofs.Ytddbnncimggogaa.V
end
section
set_option linter.unusedSimpArgs false
set_option linter.unusedVariables false
/- The compiled functions of the package fit (printed by Print.lean of this work). -/
namespace Go.Proofs.Ytddbnncimggogaa.V
open Go Go.Proofs
end Go.Proofs.Ytddbnncimggogaa.V
end
section
set_option linter.unusedSimpArgs false
set_option linter.unusedVariables false
/- What the package fit's functions compute: far, window, Fits. -/
namespace Go.Proofs.Ytddbnncimggogaa.V
open Go Go.Proofs
set_option maxRecDepth 100000
set_option maxHeartbeats 4000000
end Go.Proofs.Ytddbnncimggogaa.V
end
section
set_option linter.unusedSimpArgs false
set_option linter.unusedVariables false
/- SlotFits' law, in plain Lean. -/
namespace Go.Proofs.Ytddbnncimggogaa.V
open Go Go.Proofs
theorem sumD_nn : ∀ {l : List Leg}, (∀ x ∈ l, 1 ≤ x.d) → 0 ≤ sumD l
  | [], _ => by simp [sumD]
  | x :: r, h => by
    have h1 := sumD_nn (l := r) (fun y hy => h y (by simp [hy]))
    have h2 := h x (by simp)
    simp only [sumD]; omega
theorem leg_ok {f : List Seg} {w : Vec} (hf : mayF f = true) (hw : w.m < w.c) {d a t : Int} {v : Vec} (hd : 1 ≤ d) (h1 : w.m ≤ t + a) (h2 : t + a + d ≤ w.c) :
    (∀ b ∈ lowF f w v, ¬ inW (shiftW d a b) t) ↔ ∀ s, t + a ≤ s → s < t + a + d → leW v (atF f s) = true := by
  have hne := lowF_ne hf hw v
  constructor
  · intro hh s g1 g2
    cases hc : leW v (atF f s) with
    | true => rfl
    | false =>
      obtain ⟨b, hb, hi⟩ := (lowF_mem hf hw v s).2 ⟨by omega, by omega, hc⟩
      refine absurd ?_ (hh b hb)
      simp only [inW, shiftW] at hi ⊢; omega
  · intro hh b hb hi
    have hb2 := hne b hb
    have hin := lowF_in (f := f) (v := v) (w := w) (by omega) b hb
    simp only [inW, shiftW] at hi
    have hm : memW (lowF f w v) (max b.m (t + a)) := ⟨b, hb, by simp only [inW]; omega⟩
    have := ((lowF_mem hf hw v _).1 hm).2.2
    rw [hh _ (by omega) (by omega)] at this
    cases this
/-- Rows, by their places. -/
theorem RowsG.at {hi : Int} : ∀ {l : List Vec} {lo : Int}, RowsG lo hi l → ∀ i (h : i < l.length), (lo ≤ l[i].m ∧ l[i].m < l[i].c ∧ l[i].c ≤ hi) ∧ ∀ j (h2 : j < l.length), i < j → l[i].c < l[j].m
  | [], _, _, i, h => by simp at h
  | w :: r, lo, ⟨a, b, c, d⟩, 0, h => ⟨⟨a, b, c⟩, fun j h2 h3 => by
      obtain ⟨j, rfl⟩ : ∃ q, j = q + 1 := ⟨j - 1, by omega⟩
      have := (d.at j (by simpa using h2)).1.1
      simp only [List.getElem_cons_zero, List.getElem_cons_succ]; omega⟩
  | w :: r, lo, ⟨a, b, c, d⟩, i + 1, h => by
      obtain ⟨⟨h1, h2, h3⟩, h4⟩ := d.at i (by simpa using h)
      refine ⟨⟨by simp only [List.getElem_cons_succ]; omega, by simpa using h2, by simpa using h3⟩, fun j g1 g2 => ?_⟩
      obtain ⟨j, rfl⟩ : ∃ q, j = q + 1 := ⟨j - 1, by omega⟩
      simpa using h4 j (by simpa using g1) (by omega)
end Go.Proofs.Ytddbnncimggogaa.V
end
section
set_option linter.unusedSimpArgs false
set_option linter.unusedVariables false
/- SlotMore's law, in plain Lean. -/
namespace Go.Proofs.Ytddbnncimggogaa.V
open Go Go.Proofs
/-- May legs stand from a time on? -/
def okT (f : List Seg) : List Leg → Int → Prop
  | [], _ => True
  | x :: r, t => (∀ s, t ≤ s → s < t + x.d → leW x.v (atF f s) = true) ∧ okT f r (t + x.d)
theorem okL_T {f : List Seg} {w : Vec} (hf : mayF f = true) (hw : w.m < w.c) (t : Int) : ∀ (l : List Leg) (a : Int), (∀ x ∈ l, 1 ≤ x.d) → w.m ≤ t + a → t + a + sumD l ≤ w.c → (okL f w l a t ↔ okT f l (t + a))
  | [], _, _, _, _ => by simp [okL, okT]
  | x :: r, a, hd, h1, h2 => by
    have hx := hd x (by simp)
    have hr : ∀ y ∈ r, 1 ≤ y.d := fun y hy => hd y (by simp [hy])
    have hs := sumD_nn hr
    simp only [sumD] at h2
    simp only [okL, okT]
    rw [leg_ok hf hw hx h1 (by omega), okL_T hf hw t r (a + x.d) hr (by omega) (by omega), show t + (a + x.d) = t + a + x.d by omega]
theorem begins_T {f : List Seg} {w : Vec} {l : List Leg} (h : OkB f w l) (t : Int) : memW (beginsF f w l).1 t ↔ w.m ≤ t ∧ t + sumD l ≤ w.c ∧ okT f l t := by
  rw [(begins_is h).2 t]
  constructor
  · rintro ⟨a, b, c⟩
    have := (okL_T h.may h.win t l 0 (fun x hx => (h.pos x hx).1) (by omega) (by omega)).1 c
    rw [Int.add_zero] at this
    exact ⟨a, b, this⟩
  · rintro ⟨a, b, c⟩
    refine ⟨a, b, (okL_T h.may h.win t l 0 (fun x hx => (h.pos x hx).1) (by omega) (by omega)).2 ?_⟩
    rw [Int.add_zero]; exact c
theorem okT_mono {f g : List Seg} (h : ∀ s v, leW v (atF f s) = true → leW v (atF g s) = true) : ∀ (l : List Leg) (t : Int), okT f l t → okT g l t
  | [], _, _ => trivial
  | x :: r, t, ⟨a, b⟩ => ⟨fun s h1 h2 => h s _ (a s h1 h2), okT_mono h r _ b⟩
theorem okT_take (f : List Seg) : ∀ (k : Nat) (l : List Leg) (t : Int), okT f l t → okT f (l.take k) t
  | 0, _, _, _ => by simp [okT]
  | k + 1, [], _, _ => by simp [okT]
  | k + 1, x :: r, t, ⟨a, b⟩ => ⟨a, okT_take f k r _ b⟩
def withinB (A B : List Vec) : Bool := A.all fun a => B.any fun b => decide (b.m ≤ a.m) && decide (a.c ≤ b.c)
theorem rows_in {m c hi : Int} (hmc : m < c) : ∀ {B : List Vec} {lo : Int}, RowsG lo hi B → (∀ t, m ≤ t → t < c → memW B t) → ∃ b ∈ B, b.m ≤ m ∧ c ≤ b.c
  | [], _, _, h => absurd (h m (Int.le_refl _) hmc) (by simp [memW])
  | w :: r, lo, ⟨h1, h2, h3, h4⟩, h => by
    by_cases hm : m < w.c
    · have hmm := (memW_cons _ _ _).1 (h m (Int.le_refl _) hmc)
      have hwm : w.m ≤ m := by
        rcases hmm with q | q
        · exact q.1
        · have := h4.low q; omega
      refine ⟨w, by simp, hwm, ?_⟩
      refine Int.not_lt.1 fun hlt => ?_
      rcases (memW_cons _ _ _).1 (h w.c (by omega) hlt) with q | q
      · have := q.2; omega
      · have := h4.low q; omega
    · obtain ⟨b, hb, q⟩ := rows_in hmc h4 (fun t g1 g2 => by
        rcases (memW_cons _ _ _).1 (h t g1 g2) with q | q
        · have := q.2; omega
        · exact q)
      exact ⟨b, by simp [hb], q⟩
theorem within_of {A B : List Vec} {lo hi lo' hi' : Int} (hA : RowsG lo hi A) (hB : RowsG lo' hi' B) (h : ∀ t, memW A t → memW B t) : withinB A B = true := by
  unfold withinB
  rw [List.all_eq_true]
  intro a ha
  obtain ⟨i, hi, rfl⟩ := List.getElem_of_mem ha
  have hlt := (hA.at i hi).1.2.1
  obtain ⟨b, hb, h1, h2⟩ := rows_in hlt hB (fun t g1 g2 => h t ⟨_, ha, g1, g2⟩)
  rw [List.any_eq_true]
  exact ⟨b, hb, by simp [h1, h2]⟩
/-- In a greater window no begin is lost. -/
theorem more_wide {f : List Seg} {w w' : Vec} {l : List Leg} (h : OkB f w l) (h' : OkB f w' l) (h1 : w'.m ≤ w.m) (h2 : w.c ≤ w'.c) : withinB (beginsF f w l).1 (beginsF f w' l).1 = true :=
  within_of (begins_is h).1 (begins_is h').1 (fun t ht => by
    rw [begins_T h] at ht
    rw [begins_T h']
    exact ⟨by omega, by omega, ht.2.2⟩)
theorem more_max {f g : List Seg} {w : Vec} {l : List Leg} (h : OkB f w l) (hg : mayF g = true) (hv : ∀ t, atF g t = maxV (atF f t) (atF g t)) : OkB g w l ∧ withinB (beginsF f w l).1 (beginsF g w l).1 = true := by
  have h' : OkB g w l := ⟨hg, h.win, h.span, h.from_, h.to_, h.vs, h.ds, h.len⟩
  refine ⟨h', within_of (begins_is h).1 (begins_is h').1 (fun t ht => ?_)⟩
  rw [begins_T h] at ht
  rw [begins_T h']
  refine ⟨ht.1, ht.2.1, okT_mono (fun s v q => ?_) _ _ ht.2.2⟩
  have e := hv s
  simp only [leW, Bool.and_eq_true, decide_eq_true_eq] at q ⊢
  have e1 : (atF g s).m = max (atF f s).m (atF g s).m := congrArg Vec.m e
  have e2 : (atF g s).c = max (atF f s).c (atF g s).c := congrArg Vec.c e
  omega
theorem more_take {f : List Seg} {w : Vec} {l : List Leg} (h : OkB f w l) (hl : 1 < l.length) : OkB f w (l.take (l.length - 1)) ∧ withinB (beginsF f w l).1 (beginsF f w (l.take (l.length - 1))).1 = true := by
  have hany : ∀ (p : Leg → Bool), l.any p = false → (l.take (l.length - 1)).any p = false := fun p hp => by
    rw [List.any_eq_false] at hp ⊢
    exact fun x hx => hp x (List.mem_of_mem_take hx)
  have h' : OkB f w (l.take (l.length - 1)) := ⟨h.may, h.win, h.span, h.from_, h.to_, hany _ h.vs, hany _ h.ds, by have := h.len; rw [List.length_take]; omega⟩
  refine ⟨h', within_of (begins_is h).1 (begins_is h').1 (fun t ht => ?_)⟩
  rw [begins_T h] at ht
  rw [begins_T h']
  have hs : sumD l = sumD (l.take (l.length - 1)) + sumD (l.drop (l.length - 1)) := by rw [← sumD_app, List.take_append_drop]
  have hd : 0 ≤ sumD (l.drop (l.length - 1)) := sumD_nn (fun x hx => (h.pos x (List.mem_of_mem_drop hx)).1)
  exact ⟨ht.1, by omega, okT_take f _ l t ht.2.2⟩
end Go.Proofs.Ytddbnncimggogaa.V
end
section
set_option linter.unusedSimpArgs false
set_option linter.unusedVariables false
/- slices' functions at api.Leg (printed by gen_sl.py). -/
namespace Go.Proofs.Ytddbnncimggogaa.V
open Go Go.Proofs
set_option maxRecDepth 100000
theorem index_Leg {f : Nat} {fs cs : List AV} {Z : Im} (xs : List Leg) (hn : xs.length ≤ 1000000000000) (t : Tok) (g : Nat → Bool) (Inv : Nat → St → Prop) (st : St) (h0 : Inv 0 st)
    (hs : ∀ k s (hk : k < xs.length), Inv k s → VCalls Try.prog Z f (fs ++ [Leg.a xs[k]] ++ cs) s (fun r s' => r = .bool (g k) ∧ Inv (k + 1) s')) :
    VCalls Try.prog Z 142 [.sl (xs.map Leg.a) t, .clo f fs cs] st (fun r s => r = .int .i64 (idxI g xs.length) ∧ ∃ j, j ≤ xs.length ∧ Inv j s ∧ (idxI g xs.length = -1 → j = xs.length)) := by
  refine VCalls.of v_slices_IndexFunc_api_Leg_api_Leg_ok (Nat.le_of_ble_eq_true rfl) ?_
  simp only [v_slices_IndexFunc_api_Leg_api_Leg, ↓vD, vU, VE.ev, VE.evs, retvs, tupOf, grab, vfill, vbsl, eqCells, eqCell, veqs, veqs1, vmnx, AV.isCell, AV.isUndef, Nat.reduceEqDiff, Nat.reduceAdd, Nat.reduceSub, Nat.reduceLeDiff, Nat.reduceLT, reduceIte, reduceCtorEq, Nat.reduceBEq, k_app, k_slc1]
  refine loopf_of (by simp only [asgL, dsts, List.cons_append, List.nil_append, List.append_nil]; rfl) (by simp only [noR, Bool.and_true, Bool.and_false]; rfl) hn (fun k fr s => Inv k s ∧ fr.t 8 = .int .i64 k ∧ ∀ j, j < k → g j = false) ?_ ?_ ?_
  · exact ⟨h0, by simp [↓vD, vU, VE.ev, VE.evs, retvs, tupOf, grab, vfill, vbsl, eqCells, eqCell, veqs, veqs1, vmnx, AV.isCell, AV.isUndef, Nat.reduceEqDiff, Nat.reduceAdd, Nat.reduceSub, Nat.reduceLeDiff, Nat.reduceLT, reduceIte, reduceCtorEq, Nat.reduceBEq, k_app, k_slc1], by simp⟩
  · rintro k fr s hk hw hf hd ⟨hi, h8, hno⟩
    (repeat' (first | (simp (config := { maxDischargeDepth := 16 }) only [*, Leg.a, ↓vD, vU, VE.ev, VE.evs, retvs, tupOf, grab, vfill, vbsl, eqCells, eqCell, veqs, veqs1, vmnx, AV.isCell, AV.isUndef, Nat.reduceEqDiff, Nat.reduceAdd, Nat.reduceSub, Nat.reduceLeDiff, Nat.reduceLT, reduceIte, reduceCtorEq, Nat.reduceBEq, k_app, k_slc1]) | (with_reducible refine gs (fun _ => ?_) (fun _ => ?_)) | (with_reducible refine cs_ (fun _ => ?_) (fun _ => ?_)) | (with_reducible refine objQ_i (fun _ _ => ?_); (repeat (with_reducible refine imp_i (fun _ => ?_)))) | (with_reducible refine appK_a ?_) | (with_reducible refine freshQ_i (fun _ _ => ?_)) | (with_reducible refine nilQ_i (fun _ _ => ?_))))
    refine callH_then (hs k s hk hi) ?_
    rintro r s' ⟨rfl, hi'⟩
    (repeat' (first | (simp (config := { maxDischargeDepth := 16 }) only [*, Leg.a, ↓vD, vU, VE.ev, VE.evs, retvs, tupOf, grab, vfill, vbsl, eqCells, eqCell, veqs, veqs1, vmnx, AV.isCell, AV.isUndef, Nat.reduceEqDiff, Nat.reduceAdd, Nat.reduceSub, Nat.reduceLeDiff, Nat.reduceLT, reduceIte, reduceCtorEq, Nat.reduceBEq, k_app, k_slc1]) | (with_reducible refine gs (fun _ => ?_) (fun _ => ?_)) | (with_reducible refine cs_ (fun _ => ?_) (fun _ => ?_)) | (with_reducible refine objQ_i (fun _ _ => ?_); (repeat (with_reducible refine imp_i (fun _ => ?_)))) | (with_reducible refine appK_a ?_) | (with_reducible refine freshQ_i (fun _ _ => ?_)) | (with_reducible refine nilQ_i (fun _ _ => ?_))))
    · exact ⟨_, St.le.refl _, (idx_hit hk hno (by assumption)).symm, k + 1, hk, hi', fun e => by rw [idx_hit hk hno (by assumption)] at e; omega⟩
    · refine ⟨_, St.le.refl _, hi', fun j hj => ?_⟩
      rcases Nat.lt_succ_iff_lt_or_eq.1 hj with hj | rfl
      · exact hno j hj
      · assumption
  · rintro fr s hf hd ⟨hi, h8, hno⟩
    (repeat' (first | (simp (config := { maxDischargeDepth := 16 }) only [*, ↓vD, vU, VE.ev, VE.evs, retvs, tupOf, grab, vfill, vbsl, eqCells, eqCell, veqs, veqs1, vmnx, AV.isCell, AV.isUndef, Nat.reduceEqDiff, Nat.reduceAdd, Nat.reduceSub, Nat.reduceLeDiff, Nat.reduceLT, reduceIte, reduceCtorEq, Nat.reduceBEq, k_app, k_slc1]) | (with_reducible refine gs (fun _ => ?_) (fun _ => ?_)) | (with_reducible refine cs_ (fun _ => ?_) (fun _ => ?_)) | (with_reducible refine objQ_i (fun _ _ => ?_); (repeat (with_reducible refine imp_i (fun _ => ?_)))) | (with_reducible refine appK_a ?_) | (with_reducible refine freshQ_i (fun _ _ => ?_)) | (with_reducible refine nilQ_i (fun _ _ => ?_))))
    exact ⟨_, St.le.refl _, (idx_none hno).symm, _, Nat.le_refl _, hi, fun _ => rfl⟩
theorem contains_Leg {f : Nat} {fs cs : List AV} {Z : Im} (xs : List Leg) (hn : xs.length ≤ 1000000000000) (t : Tok) (g : Nat → Bool) (Inv : Nat → St → Prop) (st : St) (h0 : Inv 0 st)
    (hs : ∀ k s (hk : k < xs.length), Inv k s → VCalls Try.prog Z f (fs ++ [Leg.a xs[k]] ++ cs) s (fun r s' => r = .bool (g k) ∧ Inv (k + 1) s')) :
    VCalls Try.prog Z 127 [.sl (xs.map Leg.a) t, .clo f fs cs] st (fun r s => r = .bool ((List.range xs.length).any g) ∧ ∃ j, j ≤ xs.length ∧ Inv j s ∧ ((List.range xs.length).any g = false → j = xs.length)) := by
  refine VCalls.of v_slices_ContainsFunc_api_Leg_api_Leg_ok (Nat.le_of_ble_eq_true rfl) ?_
  simp only [v_slices_ContainsFunc_api_Leg_api_Leg, ↓vD, vU, VE.ev, VE.evs, retvs, tupOf, grab, vfill, vbsl, eqCells, eqCell, veqs, veqs1, vmnx, AV.isCell, AV.isUndef, Nat.reduceEqDiff, Nat.reduceAdd, Nat.reduceSub, Nat.reduceLeDiff, Nat.reduceLT, reduceIte, reduceCtorEq, Nat.reduceBEq, k_app, k_slc1]
  refine callH_then (index_Leg xs hn t g Inv st h0 hs) ?_
  rintro r s ⟨rfl, j, hj, hi, hE⟩
  (repeat' (first | (simp (config := { maxDischargeDepth := 16 }) only [*, ↓vD, vU, VE.ev, VE.evs, retvs, tupOf, grab, vfill, vbsl, eqCells, eqCell, veqs, veqs1, vmnx, AV.isCell, AV.isUndef, Nat.reduceEqDiff, Nat.reduceAdd, Nat.reduceSub, Nat.reduceLeDiff, Nat.reduceLT, reduceIte, reduceCtorEq, Nat.reduceBEq, k_app, k_slc1]) | (with_reducible refine gs (fun _ => ?_) (fun _ => ?_)) | (with_reducible refine cs_ (fun _ => ?_) (fun _ => ?_)) | (with_reducible refine objQ_i (fun _ _ => ?_); (repeat (with_reducible refine imp_i (fun _ => ?_)))) | (with_reducible refine appK_a ?_) | (with_reducible refine freshQ_i (fun _ _ => ?_)) | (with_reducible refine nilQ_i (fun _ _ => ?_))))
  refine ⟨_, St.le.refl _, idx_any g _, j, hj, hi, fun e => hE ?_⟩
  have := idx_any g xs.length
  rw [e] at this
  simp only [decide_eq_false_iff_not] at this
  rcases idx_cases g xs.length with h | h
  · exact h
  · omega
theorem contains_pLeg {f : Nat} {fs cs : List AV} (xs : List Leg) (hn : xs.length ≤ 1000000000000) (t : Tok) (g : Leg → Bool)
    (hg : ∀ x, VPure Try.prog f (fs ++ [Leg.a x] ++ cs) (.bool (g x))) : VPure Try.prog 127 [.sl (xs.map Leg.a) t, .clo f fs cs] (.bool (xs.any g)) := by
  intro Z st
  refine (contains_Leg xs hn t (fun k => (xs[k]?.map g).getD false) (fun _ s => s = st) st rfl (fun k s hk e => ?_)).mono (fun r s ⟨h1, _, _, h2, _⟩ => ⟨h1.trans (by rw [any_range]), h2⟩)
  subst e
  rw [List.getElem?_eq_getElem hk]
  exact hg _ _ _
end Go.Proofs.Ytddbnncimggogaa.V
end
section
set_option linter.unusedSimpArgs false
set_option linter.unusedVariables false
/- The compiled functions of the package slot (printed by Print.lean of this work). -/
namespace Go.Proofs.Ytddbnncimggogaa.V
open Go Go.Proofs
def v_slot_Begins : VFn := ⟨.seq (.reg [⟨some 4, .box (.t 1), none, [], []⟩,
  ⟨some 6, .mov (.c (.sl [] .full)), none, [], []⟩,
  ⟨some 7, .mov (.c (.int .i64 0)), none, [1], []⟩])
(.seq (.reg [⟨some 16, .mov (.t 0), none, [], []⟩,
  ⟨some 17, .load 2 true (.t 4), none, [], []⟩,
  ⟨some 18, .mov (.t 2), none, [], []⟩,
  ⟨some 19, .call 82 [(.t 16), (.t 17), (.t 18)], none, [0, 1, 2], []⟩,
  ⟨some 15, .mov (.t 19), none, [3], []⟩,
  ⟨some 20, .ext (.t 15) 0, none, [4], []⟩,
  ⟨some 21, .ext (.t 15) 1, none, [4], []⟩,
  ⟨some 8, .mov (.t 20), none, [5, 3, 0, 1, 2, 3, 4, 5], []⟩,
  ⟨some 9, .mov (.t 21), none, [6, 7, 0, 1, 2, 3, 4, 5, 6, 7], []⟩])
(.seq (.seq (.reg [⟨some 22, .mov (.t 9), none, [], []⟩,
  ⟨some 23, .bin .neq (.t 22) (.c (.int .i64 0)), none, [0], []⟩,
  ⟨some 24, .mov (.t 23), none, [1], []⟩,
  ⟨some 25, .mov (.t 8), some (24, false), [2], []⟩,
  ⟨some 26, .fad 1 (.t 4), some (24, false), [2], []⟩,
  ⟨some 27, .load 1 false (.t 26), some (24, false), [4, 2], []⟩,
  ⟨some 28, .fad 0 (.t 4), some (24, false), [2], []⟩,
  ⟨some 29, .load 1 false (.t 28), some (24, false), [6, 2], []⟩,
  ⟨some 30, .bin .sub (.t 27) (.t 29), some (24, false), [5, 7, 2], []⟩,
  ⟨some 31, .bin .gtr (.t 25) (.t 30), some (24, false), [3, 8, 2], []⟩,
  ⟨some 32, .pick (.t 24) (.c (.bool true)) (.t 31), none, [2, 9], []⟩])
(.cond (.t 32)
  (.seq (.reg [⟨some 33, .mov (.t 9), none, [], []⟩,
    ⟨some 6, .mov (.c (.sl [] .full)), none, [], []⟩,
    ⟨some 7, .mov (.t 33), none, [0, 1, 0, 1], []⟩])
  (.ret))
  (.skip)))
(.seq (.reg [⟨some 34, .fad 0 (.t 4), none, [], []⟩,
  ⟨some 35, .load 1 false (.t 34), none, [0], []⟩,
  ⟨some 36, .fad 1 (.t 4), none, [], []⟩,
  ⟨some 37, .load 1 false (.t 36), none, [2], []⟩,
  ⟨some 38, .mov (.t 8), none, [], []⟩,
  ⟨some 39, .bin .sub (.t 37) (.t 38), none, [3, 4], []⟩,
  ⟨some 40, .bin .add (.t 39) (.c (.int .i64 1)), none, [5], []⟩,
  ⟨some 41, .build [(.int .i64 0), (.int .i64 0)] [(0, 1, (.t 35)), (1, 1, (.t 40))], none, [1, 6], []⟩,
  ⟨some 42, .bsl 2 [(.t 41)], none, [7], []⟩,
  ⟨some 10, .alloc [(.sl [] .full)], none, [], []⟩,
  ⟨none, .store 1 (.t 10) (.t 42), none, [9, 8, 0, 1, 2, 3, 4, 5, 6, 7, 8, 9], []⟩])
(.seq (.reg [⟨some 11, .alloc [(.int .i64 0)], none, [], []⟩,
  ⟨none, .store 1 (.t 11) (.c (.int .i64 0)), none, [0, 0], []⟩])
(.seq (.seq (.reg [⟨some 43, .mov (.t 2), none, [], []⟩,
  ⟨some 44, .len (.t 43), none, [0], []⟩,
  ⟨some 45, .mov (.c (.int .i64 0)), none, [], []⟩])
(.block 0
  (.loop
    (.seq (.reg [⟨some 46, .bin .lss (.t 45) (.t 44), none, [], []⟩])
    (.seq (.cond (.t 46)
      (.skip)
      (.exit 0))
    (.seq (.block 1
      (.seq (.reg [⟨some 47, .iad 3 (.t 43) (.t 45), none, [], []⟩,
        ⟨some 48, .load 3 true (.t 47), none, [0], []⟩,
        ⟨some 13, .alloc [(.int .i64 0), (.int .i64 0), (.int .i64 0)], none, [], []⟩,
        ⟨none, .store 3 (.t 13) (.t 48), none, [2, 1, 0, 1, 2], []⟩])
      (.seq (.seq (.reg [⟨some 49, .mov (.t 0), none, [], []⟩,
        ⟨some 50, .load 2 true (.t 4), none, [], []⟩,
        ⟨some 51, .fad 1 (.t 13), none, [], []⟩,
        ⟨some 52, .load 2 true (.t 51), none, [2], []⟩,
        ⟨some 53, .call 83 [(.t 49), (.t 50), (.t 52)], none, [0, 1, 3], []⟩])
      (.block 2
        (.rng (.t 53) [54]
          (.reg [⟨some 14, .alloc [(.int .i64 0), (.int .i64 0)], none, [], []⟩,
            ⟨none, .store 2 (.t 14) (.t 54), none, [0, 0], []⟩])
          (.block 3
            (.reg [⟨some 55, .load 1 false (.t 10), none, [], []⟩,
              ⟨some 56, .fad 0 (.t 14), none, [], []⟩,
              ⟨some 57, .load 1 false (.t 56), none, [1], []⟩,
              ⟨some 58, .fad 0 (.t 13), none, [], []⟩,
              ⟨some 59, .load 1 false (.t 58), none, [3], []⟩,
              ⟨some 60, .bin .sub (.t 57) (.t 59), none, [2, 4], []⟩,
              ⟨some 61, .bin .add (.t 60) (.c (.int .i64 1)), none, [5], []⟩,
              ⟨some 62, .load 1 false (.t 11), none, [], []⟩,
              ⟨some 63, .bin .sub (.t 61) (.t 62), none, [6, 7], []⟩,
              ⟨some 64, .fad 1 (.t 14), none, [], []⟩,
              ⟨some 65, .load 1 false (.t 64), none, [9], []⟩,
              ⟨some 66, .load 1 false (.t 11), none, [], []⟩,
              ⟨some 67, .bin .sub (.t 65) (.t 66), none, [10, 11], []⟩,
              ⟨some 68, .build [(.int .i64 0), (.int .i64 0)] [(0, 1, (.t 63)), (1, 1, (.t 67))], none, [8, 12], []⟩,
              ⟨some 69, .call 84 [(.t 55), (.t 68)], none, [0, 13], []⟩,
              ⟨none, .store 1 (.t 10) (.t 69), none, [14, 14, 0, 1, 2, 3, 4, 5, 6, 7, 8, 9, 10, 11, 12, 13, 14], []⟩])))))
      (.reg [⟨some 70, .load 1 false (.t 11), none, [], []⟩,
        ⟨some 71, .fad 0 (.t 13), none, [], []⟩,
        ⟨some 72, .load 1 false (.t 71), none, [1], []⟩,
        ⟨some 73, .bin .add (.t 70) (.t 72), none, [0, 2], []⟩,
        ⟨none, .store 1 (.t 11) (.t 73), none, [3, 0, 1, 2, 3], []⟩]))))
    (.reg [⟨some 74, .bin .add (.t 45) (.c (.int .i64 1)), none, [], []⟩,
      ⟨some 45, .mov (.t 74), none, [0], []⟩])))))))
(.seq (.seq (.reg [⟨some 75, .load 1 false (.t 10), none, [], []⟩,
  ⟨some 76, .len (.t 75), none, [0], []⟩,
  ⟨some 77, .bin .eql (.t 76) (.c (.int .i64 0)), none, [1], []⟩])
(.cond (.t 77)
  (.seq (.reg [⟨some 6, .mov (.c (.sl [] .full)), none, [], []⟩,
    ⟨some 7, .mov (.c (.int .i64 0)), none, [0, 0], []⟩])
  (.ret))
  (.skip)))
(.seq (.reg [⟨some 78, .load 1 false (.t 10), none, [], []⟩,
  ⟨some 6, .mov (.t 78), none, [0, 0], []⟩,
  ⟨some 7, .mov (.c (.int .i64 0)), none, [1, 0, 1], []⟩])
(.ret)))))))),
[.t 6, .t 7], 79⟩
theorem v_slot_Begins_ok : compF Try.prog 42 = some v_slot_Begins := by kernel_rfl
def v_slot_Earliest : VFn := ⟨.seq (.reg [⟨some 4, .box (.t 1), none, [], []⟩,
  ⟨some 6, .mov (.c (.int .i64 0)), none, [], []⟩,
  ⟨some 7, .mov (.c (.int .i64 0)), none, [1], []⟩])
(.seq (.reg [⟨some 11, .mov (.t 0), none, [], []⟩,
  ⟨some 12, .load 2 true (.t 4), none, [], []⟩,
  ⟨some 13, .mov (.t 2), none, [], []⟩,
  ⟨some 14, .call 42 [(.t 11), (.t 12), (.t 13)], none, [0, 1, 2], []⟩,
  ⟨some 10, .mov (.t 14), none, [3], []⟩,
  ⟨some 15, .ext (.t 10) 0, none, [4], []⟩,
  ⟨some 16, .ext (.t 10) 1, none, [4], []⟩,
  ⟨some 8, .mov (.t 15), none, [5, 3, 0, 1, 2, 3, 4, 5], []⟩,
  ⟨some 9, .mov (.t 16), none, [6, 7, 0, 1, 2, 3, 4, 5, 6, 7], []⟩])
(.seq (.seq (.reg [⟨some 17, .mov (.t 9), none, [], []⟩,
  ⟨some 18, .bin .neq (.t 17) (.c (.int .i64 0)), none, [0], []⟩])
(.cond (.t 18)
  (.seq (.reg [⟨some 19, .mov (.t 9), none, [], []⟩,
    ⟨some 6, .mov (.c (.int .i64 0)), none, [], []⟩,
    ⟨some 7, .mov (.t 19), none, [0, 1, 0, 1], []⟩])
  (.ret))
  (.skip)))
(.seq (.reg [⟨some 20, .mov (.t 8), none, [], []⟩,
  ⟨some 21, .call 122 [(.t 20), (.c (.clo 123 [] []))], none, [0], []⟩,
  ⟨some 22, .ext (.t 21) 0, none, [1], []⟩,
  ⟨some 23, .ext (.t 21) 1, none, [1], []⟩,
  ⟨some 6, .mov (.t 22), none, [2, 1, 0, 1, 2, 3], []⟩,
  ⟨some 7, .mov (.t 23), none, [3, 4, 0, 1, 2, 3, 4], []⟩])
(.ret)))),
[.t 6, .t 7], 24⟩
theorem v_slot_Earliest_ok : compF Try.prog 79 = some v_slot_Earliest := by kernel_rfl
def v_slot_Latest : VFn := ⟨.seq (.reg [⟨some 4, .box (.t 1), none, [], []⟩,
  ⟨some 6, .mov (.c (.int .i64 0)), none, [], []⟩,
  ⟨some 7, .mov (.c (.int .i64 0)), none, [1], []⟩])
(.seq (.reg [⟨some 11, .mov (.t 0), none, [], []⟩,
  ⟨some 12, .load 2 true (.t 4), none, [], []⟩,
  ⟨some 13, .mov (.t 2), none, [], []⟩,
  ⟨some 14, .call 42 [(.t 11), (.t 12), (.t 13)], none, [0, 1, 2], []⟩,
  ⟨some 10, .mov (.t 14), none, [3], []⟩,
  ⟨some 15, .ext (.t 10) 0, none, [4], []⟩,
  ⟨some 16, .ext (.t 10) 1, none, [4], []⟩,
  ⟨some 8, .mov (.t 15), none, [5, 3, 0, 1, 2, 3, 4, 5], []⟩,
  ⟨some 9, .mov (.t 16), none, [6, 7, 0, 1, 2, 3, 4, 5, 6, 7], []⟩])
(.seq (.seq (.reg [⟨some 17, .mov (.t 9), none, [], []⟩,
  ⟨some 18, .bin .neq (.t 17) (.c (.int .i64 0)), none, [0], []⟩])
(.cond (.t 18)
  (.seq (.reg [⟨some 19, .mov (.t 9), none, [], []⟩,
    ⟨some 6, .mov (.c (.int .i64 0)), none, [], []⟩,
    ⟨some 7, .mov (.t 19), none, [0, 1, 0, 1], []⟩])
  (.ret))
  (.skip)))
(.seq (.reg [⟨some 20, .mov (.t 8), none, [], []⟩,
  ⟨some 21, .call 122 [(.t 20), (.c (.clo 124 [] []))], none, [0], []⟩,
  ⟨some 22, .ext (.t 21) 0, none, [1], []⟩,
  ⟨some 23, .ext (.t 21) 1, none, [1], []⟩,
  ⟨some 6, .mov (.t 22), none, [2, 1, 0, 1, 2, 3], []⟩,
  ⟨some 7, .mov (.t 23), none, [3, 4, 0, 1, 2, 3, 4], []⟩])
(.ret)))),
[.t 6, .t 7], 24⟩
theorem v_slot_Latest_ok : compF Try.prog 80 = some v_slot_Latest := by kernel_rfl
def v_slot_Length : VFn := ⟨.seq (.reg [⟨some 2, .mov (.c (.int .i64 0)), none, [], []⟩,
  ⟨some 3, .mov (.c (.int .i64 0)), none, [0], []⟩])
(.seq (.reg [⟨some 4, .mov (.c (.int .i64 0)), none, [], []⟩])
(.seq (.seq (.reg [⟨some 7, .mov (.t 0), none, [], []⟩,
  ⟨some 8, .len (.t 7), none, [0], []⟩,
  ⟨some 9, .mov (.c (.int .i64 0)), none, [], []⟩])
(.block 0
  (.loop
    (.seq (.reg [⟨some 10, .bin .lss (.t 9) (.t 8), none, [], []⟩])
    (.seq (.cond (.t 10)
      (.skip)
      (.exit 0))
    (.seq (.block 1
      (.seq (.reg [⟨some 11, .iad 3 (.t 7) (.t 9), none, [], []⟩,
        ⟨some 12, .load 3 true (.t 11), none, [0], []⟩,
        ⟨some 6, .alloc [(.int .i64 0), (.int .i64 0), (.int .i64 0)], none, [], []⟩,
        ⟨none, .store 3 (.t 6) (.t 12), none, [2, 1, 0, 1, 2], []⟩])
      (.seq (.seq (.reg [⟨some 13, .fad 0 (.t 6), none, [], []⟩,
        ⟨some 14, .load 1 false (.t 13), none, [0], []⟩,
        ⟨some 15, .bin .lss (.t 14) (.c (.int .i64 1)), none, [1], []⟩,
        ⟨some 16, .mov (.t 15), none, [2], []⟩,
        ⟨some 17, .fad 0 (.t 6), some (16, false), [3], []⟩,
        ⟨some 18, .load 1 false (.t 17), some (16, false), [4, 3], []⟩,
        ⟨some 19, .bin .gtr (.t 18) (.c (.int .i64 4096)), some (16, false), [5, 3], []⟩,
        ⟨some 20, .pick (.t 16) (.c (.bool true)) (.t 19), none, [3, 6], []⟩])
      (.cond (.t 20)
        (.seq (.reg [⟨some 2, .mov (.c (.int .i64 0)), none, [], []⟩,
          ⟨some 3, .mov (.c (.int .i64 2)), none, [0, 0], []⟩])
        (.ret))
        (.skip)))
      (.reg [⟨some 21, .mov (.t 4), none, [], []⟩,
        ⟨some 22, .fad 0 (.t 6), none, [], []⟩,
        ⟨some 23, .load 1 false (.t 22), none, [1], []⟩,
        ⟨some 24, .bin .add (.t 21) (.t 23), none, [0, 2], []⟩,
        ⟨some 4, .mov (.t 24), none, [3, 0, 1, 2, 3], []⟩]))))
    (.reg [⟨some 25, .bin .add (.t 9) (.c (.int .i64 1)), none, [], []⟩,
      ⟨some 9, .mov (.t 25), none, [0], []⟩])))))))
(.seq (.seq (.reg [⟨some 26, .mov (.t 0), none, [], []⟩,
  ⟨some 27, .len (.t 26), none, [0], []⟩,
  ⟨some 28, .bin .eql (.t 27) (.c (.int .i64 0)), none, [1], []⟩,
  ⟨some 29, .mov (.t 28), none, [2], []⟩,
  ⟨some 30, .mov (.t 0), some (29, false), [3], []⟩,
  ⟨some 31, .len (.t 30), some (29, false), [4, 3], []⟩,
  ⟨some 32, .bin .gtr (.t 31) (.c (.int .i64 16)), some (29, false), [5, 3], []⟩,
  ⟨some 33, .pick (.t 29) (.c (.bool true)) (.t 32), none, [3, 6], []⟩])
(.cond (.t 33)
  (.seq (.reg [⟨some 2, .mov (.c (.int .i64 0)), none, [], []⟩,
    ⟨some 3, .mov (.c (.int .i64 2)), none, [0, 0], []⟩])
  (.ret))
  (.skip)))
(.seq (.reg [⟨some 34, .mov (.t 4), none, [], []⟩,
  ⟨some 2, .mov (.t 34), none, [0, 0], []⟩,
  ⟨some 3, .mov (.c (.int .i64 0)), none, [1, 0, 1], []⟩])
(.ret))))),
[.t 2, .t 3], 35⟩
theorem v_slot_Length_ok : compF Try.prog 81 = some v_slot_Length := by kernel_rfl
def v_slot_check : VFn := ⟨.seq (.reg [⟨some 4, .box (.t 1), none, [], []⟩,
  ⟨some 6, .mov (.c (.int .i64 0)), none, [], []⟩,
  ⟨some 7, .mov (.c (.int .i64 0)), none, [1], []⟩])
(.seq (.seq (.reg [⟨some 11, .mov (.t 0), none, [], []⟩,
  ⟨some 12, .call 23 [(.t 11)], none, [0], []⟩,
  ⟨some 13, .un .not (.t 12), none, [1], []⟩])
(.cond (.t 13)
  (.seq (.reg [⟨some 6, .mov (.c (.int .i64 0)), none, [], []⟩,
    ⟨some 7, .mov (.c (.int .i64 5)), none, [0, 0], []⟩])
  (.ret))
  (.skip)))
(.seq (.reg [⟨some 15, .mov (.t 2), none, [], []⟩,
  ⟨some 16, .call 81 [(.t 15)], none, [0], []⟩,
  ⟨some 14, .mov (.t 16), none, [1], []⟩,
  ⟨some 17, .ext (.t 14) 0, none, [2], []⟩,
  ⟨some 18, .ext (.t 14) 1, none, [2], []⟩,
  ⟨some 8, .mov (.t 17), none, [3, 1, 0, 1, 2, 3], []⟩,
  ⟨some 9, .mov (.t 18), none, [4, 5, 0, 1, 2, 3, 4, 5], []⟩])
(.seq (.reg [⟨some 10, .mov (.c (.clo 125 [] [])), none, [], []⟩])
(.seq (.block 0
  (.seq (.reg [⟨some 20, .mov (.t 9), none, [], []⟩,
    ⟨some 21, .bin .neq (.t 20) (.c (.int .i64 0)), none, [0], []⟩,
    ⟨some 22, .mov (.t 21), none, [1], []⟩,
    ⟨some 23, .fad 0 (.t 4), some (22, false), [2], []⟩,
    ⟨some 24, .load 1 false (.t 23), some (22, false), [3, 2], []⟩,
    ⟨some 25, .fad 1 (.t 4), some (22, false), [2], []⟩,
    ⟨some 26, .load 1 false (.t 25), some (22, false), [5, 2], []⟩,
    ⟨some 27, .bin .geq (.t 24) (.t 26), some (22, false), [4, 6, 2], []⟩,
    ⟨some 28, .pick (.t 22) (.c (.bool true)) (.t 27), none, [2, 7], []⟩,
    ⟨some 29, .mov (.t 28), none, [8, 2], []⟩,
    ⟨some 30, .fad 1 (.t 4), some (29, false), [9], []⟩,
    ⟨some 31, .load 1 false (.t 30), some (29, false), [10, 9], []⟩,
    ⟨some 32, .fad 0 (.t 4), some (29, false), [9], []⟩,
    ⟨some 33, .load 1 false (.t 32), some (29, false), [12, 9], []⟩,
    ⟨some 34, .bin .sub (.t 31) (.t 33), some (29, false), [11, 13, 9], []⟩,
    ⟨some 35, .conv .u64 (.t 34), some (29, false), [14, 9], []⟩,
    ⟨some 36, .bin .gtr (.t 35) (.c (.int .u64 4096)), some (29, false), [15, 9], []⟩,
    ⟨some 37, .pick (.t 29) (.c (.bool true)) (.t 36), none, [9, 16], []⟩,
    ⟨some 19, .mov (.t 37), none, [17, 9], []⟩])
  (.cond (.t 19)
    (.seq (.reg [⟨some 6, .mov (.c (.int .i64 0)), none, [], []⟩,
      ⟨some 7, .mov (.c (.int .i64 2)), none, [0, 0], []⟩])
    (.ret))
    (.seq (.reg [⟨some 39, .fad 0 (.t 4), none, [], []⟩,
      ⟨some 40, .load 1 false (.t 39), none, [0], []⟩,
      ⟨some 41, .call 126 [(.t 40)], none, [1], []⟩,
      ⟨some 42, .mov (.t 41), none, [2, 2], []⟩,
      ⟨some 43, .fad 1 (.t 4), some (42, false), [3], []⟩,
      ⟨some 44, .load 1 false (.t 43), some (42, false), [4, 3], []⟩,
      ⟨some 45, .call 126 [(.t 44)], some (42, false), [5, 3, 3], []⟩,
      ⟨some 46, .pick (.t 42) (.c (.bool true)) (.t 45), none, [3, 6], []⟩,
      ⟨some 47, .mov (.t 46), none, [7, 6], []⟩,
      ⟨some 48, .mov (.t 2), some (47, false), [8], []⟩,
      ⟨some 49, .mov (.t 10), some (47, false), [8], []⟩,
      ⟨some 50, .call 127 [(.t 48), (.t 49)], some (47, false), [9, 10, 8, 8], []⟩,
      ⟨some 51, .pick (.t 47) (.c (.bool true)) (.t 50), none, [8, 11], []⟩,
      ⟨some 38, .mov (.t 51), none, [12, 11], []⟩])
    (.cond (.t 38)
      (.seq (.reg [⟨some 6, .mov (.c (.int .i64 0)), none, [], []⟩,
        ⟨some 7, .mov (.c (.int .i64 10)), none, [0, 0], []⟩])
      (.ret))
      (.skip))))))
(.seq (.reg [⟨some 52, .mov (.t 8), none, [], []⟩,
  ⟨some 6, .mov (.t 52), none, [0, 0], []⟩,
  ⟨some 7, .mov (.c (.int .i64 0)), none, [1, 0, 1], []⟩])
(.ret)))))),
[.t 6, .t 7], 53⟩
theorem v_slot_check_ok : compF Try.prog 82 = some v_slot_check := by kernel_rfl
def v_slot_low : VFn := ⟨.seq (.reg [⟨some 3, .box (.t 0), none, [], []⟩,
  ⟨some 4, .box (.t 1), none, [], []⟩,
  ⟨some 5, .box (.t 2), none, [], []⟩,
  ⟨some 6, .mov (.c .nilf), none, [], []⟩])
(.seq (.reg [⟨some 7, .mkf 128 [] [(.t 4), (.t 3), (.t 5)], none, [], []⟩,
  ⟨some 6, .mov (.t 7), none, [0, 0], []⟩])
(.ret)),
[.t 6], 8⟩
theorem v_slot_low_ok : compF Try.prog 83 = some v_slot_low := by kernel_rfl
def v_slot_without : VFn := ⟨.seq (.reg [⟨some 3, .box (.t 1), none, [], []⟩,
  ⟨some 4, .mov (.c (.sl [] .full)), none, [], []⟩])
(.seq (.reg [⟨some 10, .mov (.t 0), none, [], []⟩,
  ⟨some 11, .slc 2 (.t 10) none (some (.c (.int .i64 0))) (some (.c (.int .i64 0))), none, [0], []⟩,
  ⟨some 5, .mov (.t 11), none, [1, 0, 1], []⟩])
(.seq (.seq (.reg [⟨some 12, .mov (.t 0), none, [], []⟩,
  ⟨some 13, .len (.t 12), none, [0], []⟩,
  ⟨some 14, .mov (.c (.int .i64 0)), none, [], []⟩])
(.block 0
  (.loop
    (.seq (.reg [⟨some 15, .bin .lss (.t 14) (.t 13), none, [], []⟩])
    (.seq (.cond (.t 15)
      (.skip)
      (.exit 0))
    (.seq (.block 1
      (.seq (.reg [⟨some 16, .iad 2 (.t 12) (.t 14), none, [], []⟩,
        ⟨some 17, .load 2 true (.t 16), none, [0], []⟩,
        ⟨some 7, .alloc [(.int .i64 0), (.int .i64 0)], none, [], []⟩,
        ⟨none, .store 2 (.t 7) (.t 17), none, [2, 1, 0, 1, 2], []⟩])
      (.seq (.reg [⟨some 18, .fad 0 (.t 7), none, [], []⟩,
        ⟨some 19, .load 1 false (.t 18), none, [0], []⟩,
        ⟨some 20, .fad 1 (.t 7), none, [], []⟩,
        ⟨some 21, .load 1 false (.t 20), none, [2], []⟩,
        ⟨some 22, .fad 0 (.t 3), none, [], []⟩,
        ⟨some 23, .load 1 false (.t 22), none, [4], []⟩,
        ⟨some 24, .mnx true (.t 21) [(.t 23)], none, [3, 5], []⟩,
        ⟨some 25, .build [(.int .i64 0), (.int .i64 0)] [(0, 1, (.t 19)), (1, 1, (.t 24))], none, [1, 6], []⟩,
        ⟨some 26, .fad 0 (.t 7), none, [], []⟩,
        ⟨some 27, .load 1 false (.t 26), none, [8], []⟩,
        ⟨some 28, .fad 1 (.t 3), none, [], []⟩,
        ⟨some 29, .load 1 false (.t 28), none, [10], []⟩,
        ⟨some 30, .mnx false (.t 27) [(.t 29)], none, [9, 11], []⟩,
        ⟨some 31, .fad 1 (.t 7), none, [], []⟩,
        ⟨some 32, .load 1 false (.t 31), none, [13], []⟩,
        ⟨some 33, .build [(.int .i64 0), (.int .i64 0)] [(0, 1, (.t 30)), (1, 1, (.t 32))], none, [12, 14], []⟩,
        ⟨some 34, .build [(.int .i64 0), (.int .i64 0), (.int .i64 0), (.int .i64 0)] [(0, 2, (.t 25)), (2, 2, (.t 33))], none, [7, 15], []⟩,
        ⟨some 35, .mov (.c (.int .i64 0)), none, [], []⟩])
      (.block 2
        (.loop
          (.seq (.reg [⟨some 36, .bin .lss (.t 35) (.c (.int .i64 2)), none, [], []⟩])
          (.seq (.cond (.t 36)
            (.skip)
            (.exit 2))
          (.seq (.block 3
            (.seq (.reg [⟨some 37, .ixa 2 2 true (.t 34) (.t 35), none, [], []⟩,
              ⟨some 9, .alloc [(.int .i64 0), (.int .i64 0)], none, [], []⟩,
              ⟨none, .store 2 (.t 9) (.t 37), none, [1, 0, 0, 1], []⟩])
            (.seq (.reg [⟨some 38, .fad 0 (.t 9), none, [], []⟩,
              ⟨some 39, .load 1 false (.t 38), none, [0], []⟩,
              ⟨some 40, .fad 1 (.t 9), none, [], []⟩,
              ⟨some 41, .load 1 false (.t 40), none, [2], []⟩,
              ⟨some 42, .bin .lss (.t 39) (.t 41), none, [1, 3], []⟩])
            (.cond (.t 42)
              (.reg [⟨some 43, .mov (.t 5), none, [], []⟩,
                ⟨some 44, .load 2 true (.t 9), none, [], []⟩,
                ⟨some 45, .bsl 2 [(.t 44)], none, [1], []⟩,
                ⟨some 46, .app 2 16 (.t 43) (.t 45), none, [0, 2], []⟩,
                ⟨some 5, .mov (.t 46), none, [3, 3, 0, 1, 2, 3], []⟩])
              (.skip)))))
          (.reg [⟨some 47, .bin .add (.t 35) (.c (.int .i64 1)), none, [], []⟩,
            ⟨some 35, .mov (.t 47), none, [0], []⟩])))))))))
    (.reg [⟨some 48, .bin .add (.t 14) (.c (.int .i64 1)), none, [], []⟩,
      ⟨some 14, .mov (.t 48), none, [0], []⟩])))))))
(.seq (.reg [⟨some 49, .mov (.t 5), none, [], []⟩,
  ⟨some 4, .mov (.t 49), none, [0, 0], []⟩])
(.ret)))),
[.t 4], 50⟩
theorem v_slot_without_ok : compF Try.prog 84 = some v_slot_without := by kernel_rfl
def v_slot_end_int64 : VFn := ⟨.seq (.reg [⟨some 4, .mov (.c (.int .i64 0)), none, [], []⟩,
  ⟨some 5, .mov (.c (.int .i64 0)), none, [0], []⟩])
(.seq (.seq (.reg [⟨some 7, .mov (.t 0), none, [], []⟩,
  ⟨some 8, .len (.t 7), none, [0], []⟩,
  ⟨some 9, .bin .eql (.t 8) (.c (.int .i64 0)), none, [1], []⟩])
(.cond (.t 9)
  (.seq (.reg [⟨some 6, .mov (.c (.int .i64 0)), none, [], []⟩])
  (.seq (.reg [⟨some 10, .mov (.t 6), none, [], []⟩,
    ⟨some 4, .mov (.t 10), none, [0, 0], []⟩,
    ⟨some 5, .mov (.c (.int .i64 210)), none, [1, 0, 1], []⟩])
  (.ret)))
  (.skip)))
(.seq (.reg [⟨some 11, .mov (.t 1), none, [], []⟩,
  ⟨some 12, .mov (.t 0), none, [], []⟩,
  ⟨some 13, .callv (.t 11) [(.t 12)], none, [0, 1], []⟩,
  ⟨some 4, .mov (.t 13), none, [2, 2, 0, 1, 2], []⟩,
  ⟨some 5, .mov (.c (.int .i64 0)), none, [3, 0, 1, 2, 3], []⟩])
(.ret))),
[.t 4, .t 5], 14⟩
theorem v_slot_end_int64_ok : compF Try.prog 122 = some v_slot_end_int64 := by kernel_rfl
def v_slot_Earliest_1 : VFn := ⟨.seq (.reg [⟨some 2, .mov (.c (.int .i64 0)), none, [], []⟩])
(.seq (.reg [⟨some 3, .mov (.t 0), none, [], []⟩,
  ⟨some 4, .iad 2 (.t 3) (.c (.int .i64 0)), none, [0], []⟩,
  ⟨some 5, .fad 0 (.t 4), none, [1], []⟩,
  ⟨some 6, .load 1 false (.t 5), none, [2], []⟩,
  ⟨some 2, .mov (.t 6), none, [3, 0, 1, 2, 3], []⟩])
(.ret)),
[.t 2], 7⟩
theorem v_slot_Earliest_1_ok : compF Try.prog 123 = some v_slot_Earliest_1 := by kernel_rfl
def v_slot_Latest_1 : VFn := ⟨.seq (.reg [⟨some 2, .mov (.c (.int .i64 0)), none, [], []⟩])
(.seq (.reg [⟨some 3, .mov (.t 0), none, [], []⟩,
  ⟨some 4, .mov (.t 0), none, [], []⟩,
  ⟨some 5, .len (.t 4), none, [1], []⟩,
  ⟨some 6, .bin .sub (.t 5) (.c (.int .i64 1)), none, [2], []⟩,
  ⟨some 7, .iad 2 (.t 3) (.t 6), none, [0, 3], []⟩,
  ⟨some 8, .fad 1 (.t 7), none, [4], []⟩,
  ⟨some 9, .load 1 false (.t 8), none, [5], []⟩,
  ⟨some 10, .bin .sub (.t 9) (.c (.int .i64 1)), none, [6], []⟩,
  ⟨some 2, .mov (.t 10), none, [7, 0, 1, 2, 3, 4, 5, 6, 7], []⟩])
(.ret)),
[.t 2], 11⟩
theorem v_slot_Latest_1_ok : compF Try.prog 124 = some v_slot_Latest_1 := by kernel_rfl
def v_slot_check_1 : VFn := ⟨.seq (.reg [⟨some 1, .box (.t 0), none, [], []⟩,
  ⟨some 2, .mov (.c (.bool false)), none, [], []⟩])
(.seq (.reg [⟨some 3, .fad 1 (.t 1), none, [], []⟩,
  ⟨some 4, .load 2 true (.t 3), none, [0], []⟩,
  ⟨some 5, .call 100 [(.t 4)], none, [1], []⟩,
  ⟨some 6, .un .not (.t 5), none, [2], []⟩,
  ⟨some 2, .mov (.t 6), none, [3, 2, 0, 1, 2, 3], []⟩])
(.ret)),
[.t 2], 7⟩
theorem v_slot_check_1_ok : compF Try.prog 125 = some v_slot_check_1 := by kernel_rfl
def v_slot_far : VFn := ⟨.seq (.reg [⟨some 2, .mov (.c (.bool false)), none, [], []⟩])
(.seq (.reg [⟨some 3, .mov (.t 0), none, [], []⟩,
  ⟨some 4, .bin .lss (.t 3) (.c (.int .i64 (-1099511627776))), none, [0], []⟩,
  ⟨some 5, .mov (.t 4), none, [1], []⟩,
  ⟨some 6, .mov (.t 0), some (5, false), [2], []⟩,
  ⟨some 7, .bin .gtr (.t 6) (.c (.int .i64 1099511627776)), some (5, false), [3, 2], []⟩,
  ⟨some 8, .pick (.t 5) (.c (.bool true)) (.t 7), none, [2, 4], []⟩,
  ⟨some 2, .mov (.t 8), none, [5, 2, 0, 1, 2, 3, 4, 5], []⟩])
(.ret)),
[.t 2], 9⟩
theorem v_slot_far_ok : compF Try.prog 126 = some v_slot_far := by kernel_rfl
def v_slot_low_1 : VFn := ⟨.seq (.dreg [⟨some 9, .fad 0 (.t 1), none, [], []⟩,
  ⟨some 10, .load 1 false (.t 9), none, [0], []⟩,
  ⟨some 11, .load 1 false (.t 2), none, [], []⟩,
  ⟨some 12, .fad 0 (.t 1), none, [], []⟩,
  ⟨some 13, .load 1 false (.t 12), none, [3], []⟩,
  ⟨some 14, .call 17 [(.t 11), (.t 13)], none, [2, 4], []⟩,
  ⟨some 6, .alloc [(.int .i64 0), (.int .i64 0)], none, [], []⟩,
  ⟨some 5, .mov (.t 10), none, [1, 5, 0, 1, 6], []⟩,
  ⟨none, .store 2 (.t 6) (.t 14), none, [6, 5, 7, 0, 1, 2, 3, 4, 5, 6, 7], []⟩])
(.seq (.seq (.reg [⟨some 15, .load 1 false (.t 2), none, [], []⟩,
  ⟨some 16, .len (.t 15), none, [0], []⟩,
  ⟨some 17, .mov (.c (.int .i64 0)), none, [], []⟩])
(.block 0
  (.loop
    (.seq (.reg [⟨some 18, .bin .lss (.t 17) (.t 16), none, [], []⟩])
    (.seq (.cond (.t 18)
      (.skip)
      (.exit 0))
    (.seq (.block 1
      (.seq (.reg [⟨some 19, .iad 3 (.t 15) (.t 17), none, [], []⟩,
        ⟨some 20, .load 3 true (.t 19), none, [0], []⟩,
        ⟨some 8, .alloc [(.int .i64 0), (.int .i64 0), (.int .i64 0)], none, [], []⟩,
        ⟨none, .store 3 (.t 8) (.t 20), none, [2, 1, 0, 1, 2], []⟩])
      (.seq (.seq (.reg [⟨some 21, .fad 0 (.t 8), none, [], []⟩,
        ⟨some 22, .load 1 false (.t 21), none, [0], []⟩,
        ⟨some 23, .fad 0 (.t 1), none, [], []⟩,
        ⟨some 24, .load 1 false (.t 23), none, [2], []⟩,
        ⟨some 25, .bin .leq (.t 22) (.t 24), none, [1, 3], []⟩,
        ⟨some 26, .mov (.t 25), none, [4], []⟩,
        ⟨some 27, .fad 0 (.t 8), some (26, false), [5], []⟩,
        ⟨some 28, .load 1 false (.t 27), some (26, false), [6, 5], []⟩,
        ⟨some 29, .fad 1 (.t 1), some (26, false), [5], []⟩,
        ⟨some 30, .load 1 false (.t 29), some (26, false), [8, 5], []⟩,
        ⟨some 31, .bin .geq (.t 28) (.t 30), some (26, false), [7, 9, 5], []⟩,
        ⟨some 32, .pick (.t 26) (.c (.bool true)) (.t 31), none, [5, 10], []⟩])
      (.cond (.t 32)
        (.exit 1)
        (.skip)))
      (.seq (.seq (.reg [⟨some 33, .load 2 true (.t 3), none, [], []⟩,
        ⟨some 34, .load 2 true (.t 6), none, [], []⟩,
        ⟨some 35, .call 76 [(.t 33), (.t 34)], none, [0, 1], []⟩,
        ⟨some 36, .un .not (.t 35), none, [2], []⟩,
        ⟨some 37, .mov (.t 36), none, [3, 2], []⟩,
        ⟨some 38, .mov (.t 0), some (37, true), [4], []⟩,
        ⟨some 39, .mov (.t 5), some (37, true), [4], []⟩,
        ⟨some 40, .fad 0 (.t 8), some (37, true), [4], []⟩,
        ⟨some 41, .load 1 false (.t 40), some (37, true), [7, 4], []⟩,
        ⟨some 42, .build [(.int .i64 0), (.int .i64 0)] [(0, 1, (.t 39)), (1, 1, (.t 41))], some (37, true), [6, 8, 4], []⟩,
        ⟨some 43, .callv (.t 38) [(.t 42)], some (37, true), [5, 9, 4, 4], []⟩,
        ⟨some 44, .un .not (.t 43), some (37, true), [10, 4], []⟩,
        ⟨some 45, .pick (.t 37) (.t 44) (.c (.bool false)), none, [4, 11], []⟩])
      (.cond (.t 45)
        (.ret)
        (.skip)))
      (.dreg [⟨some 46, .fad 0 (.t 8), none, [], []⟩,
        ⟨some 47, .load 1 false (.t 46), none, [0], []⟩,
        ⟨some 48, .fad 1 (.t 8), none, [], []⟩,
        ⟨some 49, .load 2 true (.t 48), none, [2], []⟩,
        ⟨some 5, .mov (.t 47), none, [1, 0, 1], []⟩,
        ⟨none, .store 2 (.t 6) (.t 49), none, [3, 4, 0, 1, 2, 3, 4], []⟩])))))
    (.reg [⟨some 50, .bin .add (.t 17) (.c (.int .i64 1)), none, [], []⟩,
      ⟨some 17, .mov (.t 50), none, [0], []⟩])))))))
(.seq (.reg [⟨some 51, .load 2 true (.t 3), none, [], []⟩,
  ⟨some 52, .load 2 true (.t 6), none, [], []⟩,
  ⟨some 53, .call 76 [(.t 51), (.t 52)], none, [0, 1], []⟩,
  ⟨some 54, .un .not (.t 53), none, [2], []⟩])
(.cond (.t 54)
  (.reg [⟨some 55, .mov (.t 0), none, [], []⟩,
    ⟨some 56, .mov (.t 5), none, [], []⟩,
    ⟨some 57, .fad 1 (.t 1), none, [], []⟩,
    ⟨some 58, .load 1 false (.t 57), none, [2], []⟩,
    ⟨some 59, .build [(.int .i64 0), (.int .i64 0)] [(0, 1, (.t 56)), (1, 1, (.t 58))], none, [1, 3], []⟩,
    ⟨some 60, .callv (.t 55) [(.t 59)], none, [0, 4], []⟩])
  (.skip)))),
[], 61⟩
theorem v_slot_low_1_ok : compF Try.prog 128 = some v_slot_low_1 := by kernel_rfl
end Go.Proofs.Ytddbnncimggogaa.V
end
section
set_option linter.unusedSimpArgs false
set_option linter.unusedVariables false
/- What the package slot's functions compute: Length, far, check, without, end. -/
namespace Go.Proofs.Ytddbnncimggogaa.V
open Go Go.Proofs
set_option maxRecDepth 100000
set_option maxHeartbeats 4000000
theorem Length_v (l : List Leg) (hn : l.length ≤ 1000000000) (t : Tok) : VPure Try.prog 81 [.sl (l.map Leg.a) t] (.tup [num (lengthF l).1, num (lengthF l).2]) := by
  refine VPure.of v_slot_Length_ok (Nat.le_of_ble_eq_true rfl) (fun Z st => ?_)
  have HB : Hid (∀ k (h : k < l.length), badD l[k] = true → lengthF l = (0, 2)) := ⟨fun k h hb => by
    have : l.any badD = true := List.any_eq_true.2 ⟨_, List.getElem_mem h, hb⟩
    simp [lengthF, this]⟩
  simp only [v_slot_Length, ↓vD, vU, VE.ev, VE.evs, retvs, tupOf, grab, vfill, vbsl, eqCells, eqCell, veqs, veqs1, vmnx, AV.isCell, AV.isUndef, Nat.reduceEqDiff, Nat.reduceAdd, Nat.reduceSub, Nat.reduceLeDiff, Nat.reduceLT, reduceIte, reduceCtorEq, Nat.reduceBEq, k_app, k_slc1]
  (repeat' (first | (simp (config := { maxDischargeDepth := 16 }) only [*, num, vX, Int.reduceLE, Int.reduceLT, Int.reduceGE, Int.reduceGT, Int.reduceBEq, Int.reduceBNe, Int.reduceAdd, Int.reduceSub, Int.reduceMul, Int.reduceNeg, ↓vD, vU, VE.ev, VE.evs, retvs, tupOf, grab, vfill, vbsl, eqCells, eqCell, veqs, veqs1, vmnx, AV.isCell, AV.isUndef, Nat.reduceEqDiff, Nat.reduceAdd, Nat.reduceSub, Nat.reduceLeDiff, Nat.reduceLT, reduceIte, reduceCtorEq, Nat.reduceBEq]) | (simp (disch := first | assumption | omega | exact Seg.len _ | exact Vec.len _ | exact Leg.len _ | exact num_len _ | exact rowA_len _ | exact rowA_len | exact rowT_len _ | exact rowT_len | exact Seg.len | exact Vec.len | exact Leg.len | exact num_len | exact AV.slen _ _ | rfl) only [num, vP]) | (with_reducible (first | refine gsnd (fun _ => ?_) (fun _ => ?_) | refine csnd (fun _ => ?_) (fun _ => ?_) | refine gsd (fun _ => ?_) (fun _ => ?_) | refine csd (fun _ => ?_) (fun _ => ?_) | refine gsn (fun _ => ?_) (fun _ => ?_) | refine csn (fun _ => ?_) (fun _ => ?_))) | (with_reducible refine gs (fun _ => ?_) (fun _ => ?_)) | (with_reducible refine cs_ (fun _ => ?_) (fun _ => ?_)) | (with_reducible refine objQ_i (fun _ _ => ?_); (repeat (with_reducible refine imp_i (fun _ => ?_)))) | ((try with_reducible refine appK_a ?_); first | (with_reducible refine appD_F (by refine ⟨?_, ?_, ?_, ?_⟩ <;> (first | assumption | omega | exact St.has_add (by assumption) | (simp only [ins_has]; exact St.has_add (by assumption)) | (simp only [ins_has, fresh_ins, kill_ins, add_ins] at *; exact St.has_add (by assumption)) | (simp only [*, ins_has, has_full, St.has_add]; done) | (simp [-List.map_take, -List.map_drop, or_imp, forall_and, Seg.a, Vec.a, Leg.a, num, okEl, cells_agg, cells_int, cells_sl, cells_bool, AV.isCell]; done) | (simp; omega))) (fun _ _ => ?_)) | (with_reducible refine appD_V (by refine ⟨?_, ?_, ?_, ?_, ?_⟩ <;> (first | assumption | omega | exact St.has_add (by assumption) | (simp only [ins_has]; exact St.has_add (by assumption)) | (simp only [ins_has, fresh_ins, kill_ins, add_ins] at *; exact St.has_add (by assumption)) | (simp only [*, ins_has, has_full, St.has_add]; done) | (simp [-List.map_take, -List.map_drop, or_imp, forall_and, Seg.a, Vec.a, Leg.a, num, okEl, cells_agg, cells_int, cells_sl, cells_bool, AV.isCell]; done) | (simp; omega))) (fun _ _ => ?_))) | (with_reducible refine freshQ_i (fun _ _ => ?_)) | (with_reducible refine nilQ_i (fun _ _ => ?_))))
  refine loopf_of (len := l.length) (by simp only [asgL, dsts, List.cons_append, List.nil_append, List.append_nil]; rfl) (by simp only [noR, Bool.and_true, Bool.and_false]; rfl) (by omega) (fun k fr s => ∃ n, s = st ∧ fr.t 9 = .int .i64 k ∧ fr.t 4 = .int .i64 n ∧ Hid (n = sumD (l.take k) ∧ (l.take k).any badD = false) ∧ 0 ≤ n ∧ n ≤ 4096 * k) ?_ ?_ ?_
  · exact ⟨0, rfl, by simp [↓vD, vU, VE.ev, VE.evs, retvs, tupOf, grab, vfill, vbsl, eqCells, eqCell, veqs, veqs1, vmnx, AV.isCell, AV.isUndef, Nat.reduceEqDiff, Nat.reduceAdd, Nat.reduceSub, Nat.reduceLeDiff, Nat.reduceLT, reduceIte, reduceCtorEq, Nat.reduceBEq, k_app, k_slc1], by simp [↓vD, vU, VE.ev, VE.evs, retvs, tupOf, grab, vfill, vbsl, eqCells, eqCell, veqs, veqs1, vmnx, AV.isCell, AV.isUndef, Nat.reduceEqDiff, Nat.reduceAdd, Nat.reduceSub, Nat.reduceLeDiff, Nat.reduceLT, reduceIte, reduceCtorEq, Nat.reduceBEq, k_app, k_slc1], ⟨by simp [sumD]⟩, by omega, by omega⟩
  · rintro k fr s hk hw hfr hd ⟨n, rfl, h9, h4, HK, h0, hmx⟩
    obtain ⟨x, hx⟩ : ∃ x, l[k] = x := ⟨_, rfl⟩
    have HX := Hid.mk hx
    (repeat' (first | (simp (config := { maxDischargeDepth := 16 }) only [*, Leg.a, num, vX, Int.reduceLE, Int.reduceLT, Int.reduceGE, Int.reduceGT, Int.reduceBEq, Int.reduceBNe, Int.reduceAdd, Int.reduceSub, Int.reduceMul, Int.reduceNeg, ↓vD, vU, VE.ev, VE.evs, retvs, tupOf, grab, vfill, vbsl, eqCells, eqCell, veqs, veqs1, vmnx, AV.isCell, AV.isUndef, Nat.reduceEqDiff, Nat.reduceAdd, Nat.reduceSub, Nat.reduceLeDiff, Nat.reduceLT, reduceIte, reduceCtorEq, Nat.reduceBEq]) | (simp (disch := first | assumption | omega | exact Seg.len _ | exact Vec.len _ | exact Leg.len _ | exact num_len _ | exact rowA_len _ | exact rowA_len | exact rowT_len _ | exact rowT_len | exact Seg.len | exact Vec.len | exact Leg.len | exact num_len | exact AV.slen _ _ | rfl) only [Leg.a, num, vP]) | (with_reducible (first | refine gsnd (fun _ => ?_) (fun _ => ?_) | refine csnd (fun _ => ?_) (fun _ => ?_) | refine gsd (fun _ => ?_) (fun _ => ?_) | refine csd (fun _ => ?_) (fun _ => ?_) | refine gsn (fun _ => ?_) (fun _ => ?_) | refine csn (fun _ => ?_) (fun _ => ?_))) | (with_reducible refine gs (fun _ => ?_) (fun _ => ?_)) | (with_reducible refine cs_ (fun _ => ?_) (fun _ => ?_)) | (with_reducible refine objQ_i (fun _ _ => ?_); (repeat (with_reducible refine imp_i (fun _ => ?_)))) | ((try with_reducible refine appK_a ?_); first | (with_reducible refine appD_F (by refine ⟨?_, ?_, ?_, ?_⟩ <;> (first | assumption | omega | exact St.has_add (by assumption) | (simp only [ins_has]; exact St.has_add (by assumption)) | (simp only [ins_has, fresh_ins, kill_ins, add_ins] at *; exact St.has_add (by assumption)) | (simp only [*, ins_has, has_full, St.has_add]; done) | (simp [-List.map_take, -List.map_drop, or_imp, forall_and, Seg.a, Vec.a, Leg.a, num, okEl, cells_agg, cells_int, cells_sl, cells_bool, AV.isCell]; done) | (simp; omega))) (fun _ _ => ?_)) | (with_reducible refine appD_V (by refine ⟨?_, ?_, ?_, ?_, ?_⟩ <;> (first | assumption | omega | exact St.has_add (by assumption) | (simp only [ins_has]; exact St.has_add (by assumption)) | (simp only [ins_has, fresh_ins, kill_ins, add_ins] at *; exact St.has_add (by assumption)) | (simp only [*, ins_has, has_full, St.has_add]; done) | (simp [-List.map_take, -List.map_drop, or_imp, forall_and, Seg.a, Vec.a, Leg.a, num, okEl, cells_agg, cells_int, cells_sl, cells_bool, AV.isCell]; done) | (simp; omega))) (fun _ _ => ?_))) | (with_reducible refine freshQ_i (fun _ _ => ?_)) | (with_reducible refine nilQ_i (fun _ _ => ?_))))
    · rw [HB.out k hk (by rw [HX.out]; simp only [badD, Bool.or_eq_true, decide_eq_true_eq]; omega)]
    · rw [HB.out k hk (by rw [HX.out]; simp only [badD, Bool.or_eq_true, decide_eq_true_eq]; omega)]
    · rename_i h1 h2
      refine ⟨s, by (refine ⟨fun i o e => ?_, fun _ h => h⟩; revert e; simp only [St.ins, St.del, add_objs, kill_objs]; (repeat' split); all_goals (first | exact id | (intros; contradiction) | (intros; subst_vars; contradiction) | (intros; simp_all; done) | (intros; subst_vars; simp_all; done))), n + x.d, rfl, rfl, ⟨by rw [sumD_take hk, HX.out, HK.out.1], ?_⟩, by omega, by omega⟩
      rw [List.take_add_one, List.getElem?_eq_getElem hk, List.any_append, HK.out.2, HX.out]
      simp [badD]; omega
  · rintro fr s hfr hd ⟨n, rfl, h9, h4, HK, h0, hmx⟩
    have hk := HK.out
    rw [List.take_length] at hk
    have e : lengthF l = if l.length = 0 ∨ 16 < l.length then (0, 2) else (n, 0) := by
      unfold lengthF; rw [hk.2, ← hk.1]; simp only [Bool.false_or, Bool.or_eq_true, decide_eq_true_eq]
    clear hk HK
    by_cases hz : l.length = 0
    · rw [if_pos (.inl hz)] at e
      rw [e]
      clear e
      (repeat' (first | (simp (config := { maxDischargeDepth := 16 }) only [*, num, vX, Int.reduceLE, Int.reduceLT, Int.reduceGE, Int.reduceGT, Int.reduceBEq, Int.reduceBNe, Int.reduceAdd, Int.reduceSub, Int.reduceMul, Int.reduceNeg, ↓vD, vU, VE.ev, VE.evs, retvs, tupOf, grab, vfill, vbsl, eqCells, eqCell, veqs, veqs1, vmnx, AV.isCell, AV.isUndef, Nat.reduceEqDiff, Nat.reduceAdd, Nat.reduceSub, Nat.reduceLeDiff, Nat.reduceLT, reduceIte, reduceCtorEq, Nat.reduceBEq]) | (simp (disch := first | assumption | omega | exact Seg.len _ | exact Vec.len _ | exact Leg.len _ | exact num_len _ | exact rowA_len _ | exact rowA_len | exact rowT_len _ | exact rowT_len | exact Seg.len | exact Vec.len | exact Leg.len | exact num_len | exact AV.slen _ _ | rfl) only [num, vP]) | (with_reducible (first | refine gsnd (fun _ => ?_) (fun _ => ?_) | refine csnd (fun _ => ?_) (fun _ => ?_) | refine gsd (fun _ => ?_) (fun _ => ?_) | refine csd (fun _ => ?_) (fun _ => ?_) | refine gsn (fun _ => ?_) (fun _ => ?_) | refine csn (fun _ => ?_) (fun _ => ?_))) | (with_reducible refine gs (fun _ => ?_) (fun _ => ?_)) | (with_reducible refine cs_ (fun _ => ?_) (fun _ => ?_)) | (with_reducible refine objQ_i (fun _ _ => ?_); (repeat (with_reducible refine imp_i (fun _ => ?_)))) | ((try with_reducible refine appK_a ?_); first | (with_reducible refine appD_F (by refine ⟨?_, ?_, ?_, ?_⟩ <;> (first | assumption | omega | exact St.has_add (by assumption) | (simp only [ins_has]; exact St.has_add (by assumption)) | (simp only [ins_has, fresh_ins, kill_ins, add_ins] at *; exact St.has_add (by assumption)) | (simp only [*, ins_has, has_full, St.has_add]; done) | (simp [-List.map_take, -List.map_drop, or_imp, forall_and, Seg.a, Vec.a, Leg.a, num, okEl, cells_agg, cells_int, cells_sl, cells_bool, AV.isCell]; done) | (simp; omega))) (fun _ _ => ?_)) | (with_reducible refine appD_V (by refine ⟨?_, ?_, ?_, ?_, ?_⟩ <;> (first | assumption | omega | exact St.has_add (by assumption) | (simp only [ins_has]; exact St.has_add (by assumption)) | (simp only [ins_has, fresh_ins, kill_ins, add_ins] at *; exact St.has_add (by assumption)) | (simp only [*, ins_has, has_full, St.has_add]; done) | (simp [-List.map_take, -List.map_drop, or_imp, forall_and, Seg.a, Vec.a, Leg.a, num, okEl, cells_agg, cells_int, cells_sl, cells_bool, AV.isCell]; done) | (simp; omega))) (fun _ _ => ?_))) | (with_reducible refine freshQ_i (fun _ _ => ?_)) | (with_reducible refine nilQ_i (fun _ _ => ?_))))
    · by_cases h16 : 16 < l.length
      · rw [if_pos (.inr h16)] at e
        rw [e]
        clear e
        (repeat' (first | (simp (config := { maxDischargeDepth := 16 }) only [*, num, vX, Int.reduceLE, Int.reduceLT, Int.reduceGE, Int.reduceGT, Int.reduceBEq, Int.reduceBNe, Int.reduceAdd, Int.reduceSub, Int.reduceMul, Int.reduceNeg, ↓vD, vU, VE.ev, VE.evs, retvs, tupOf, grab, vfill, vbsl, eqCells, eqCell, veqs, veqs1, vmnx, AV.isCell, AV.isUndef, Nat.reduceEqDiff, Nat.reduceAdd, Nat.reduceSub, Nat.reduceLeDiff, Nat.reduceLT, reduceIte, reduceCtorEq, Nat.reduceBEq]) | (simp (disch := first | assumption | omega | exact Seg.len _ | exact Vec.len _ | exact Leg.len _ | exact num_len _ | exact rowA_len _ | exact rowA_len | exact rowT_len _ | exact rowT_len | exact Seg.len | exact Vec.len | exact Leg.len | exact num_len | exact AV.slen _ _ | rfl) only [num, vP]) | (with_reducible (first | refine gsnd (fun _ => ?_) (fun _ => ?_) | refine csnd (fun _ => ?_) (fun _ => ?_) | refine gsd (fun _ => ?_) (fun _ => ?_) | refine csd (fun _ => ?_) (fun _ => ?_) | refine gsn (fun _ => ?_) (fun _ => ?_) | refine csn (fun _ => ?_) (fun _ => ?_))) | (with_reducible refine gs (fun _ => ?_) (fun _ => ?_)) | (with_reducible refine cs_ (fun _ => ?_) (fun _ => ?_)) | (with_reducible refine objQ_i (fun _ _ => ?_); (repeat (with_reducible refine imp_i (fun _ => ?_)))) | ((try with_reducible refine appK_a ?_); first | (with_reducible refine appD_F (by refine ⟨?_, ?_, ?_, ?_⟩ <;> (first | assumption | omega | exact St.has_add (by assumption) | (simp only [ins_has]; exact St.has_add (by assumption)) | (simp only [ins_has, fresh_ins, kill_ins, add_ins] at *; exact St.has_add (by assumption)) | (simp only [*, ins_has, has_full, St.has_add]; done) | (simp [-List.map_take, -List.map_drop, or_imp, forall_and, Seg.a, Vec.a, Leg.a, num, okEl, cells_agg, cells_int, cells_sl, cells_bool, AV.isCell]; done) | (simp; omega))) (fun _ _ => ?_)) | (with_reducible refine appD_V (by refine ⟨?_, ?_, ?_, ?_, ?_⟩ <;> (first | assumption | omega | exact St.has_add (by assumption) | (simp only [ins_has]; exact St.has_add (by assumption)) | (simp only [ins_has, fresh_ins, kill_ins, add_ins] at *; exact St.has_add (by assumption)) | (simp only [*, ins_has, has_full, St.has_add]; done) | (simp [-List.map_take, -List.map_drop, or_imp, forall_and, Seg.a, Vec.a, Leg.a, num, okEl, cells_agg, cells_int, cells_sl, cells_bool, AV.isCell]; done) | (simp; omega))) (fun _ _ => ?_))) | (with_reducible refine freshQ_i (fun _ _ => ?_)) | (with_reducible refine nilQ_i (fun _ _ => ?_))))
      · rw [if_neg (by omega)] at e
        rw [e]
        clear e
        (repeat' (first | (simp (config := { maxDischargeDepth := 16 }) only [*, num, vX, Int.reduceLE, Int.reduceLT, Int.reduceGE, Int.reduceGT, Int.reduceBEq, Int.reduceBNe, Int.reduceAdd, Int.reduceSub, Int.reduceMul, Int.reduceNeg, ↓vD, vU, VE.ev, VE.evs, retvs, tupOf, grab, vfill, vbsl, eqCells, eqCell, veqs, veqs1, vmnx, AV.isCell, AV.isUndef, Nat.reduceEqDiff, Nat.reduceAdd, Nat.reduceSub, Nat.reduceLeDiff, Nat.reduceLT, reduceIte, reduceCtorEq, Nat.reduceBEq]) | (simp (disch := first | assumption | omega | exact Seg.len _ | exact Vec.len _ | exact Leg.len _ | exact num_len _ | exact rowA_len _ | exact rowA_len | exact rowT_len _ | exact rowT_len | exact Seg.len | exact Vec.len | exact Leg.len | exact num_len | exact AV.slen _ _ | rfl) only [num, vP]) | (with_reducible (first | refine gsnd (fun _ => ?_) (fun _ => ?_) | refine csnd (fun _ => ?_) (fun _ => ?_) | refine gsd (fun _ => ?_) (fun _ => ?_) | refine csd (fun _ => ?_) (fun _ => ?_) | refine gsn (fun _ => ?_) (fun _ => ?_) | refine csn (fun _ => ?_) (fun _ => ?_))) | (with_reducible refine gs (fun _ => ?_) (fun _ => ?_)) | (with_reducible refine cs_ (fun _ => ?_) (fun _ => ?_)) | (with_reducible refine objQ_i (fun _ _ => ?_); (repeat (with_reducible refine imp_i (fun _ => ?_)))) | ((try with_reducible refine appK_a ?_); first | (with_reducible refine appD_F (by refine ⟨?_, ?_, ?_, ?_⟩ <;> (first | assumption | omega | exact St.has_add (by assumption) | (simp only [ins_has]; exact St.has_add (by assumption)) | (simp only [ins_has, fresh_ins, kill_ins, add_ins] at *; exact St.has_add (by assumption)) | (simp only [*, ins_has, has_full, St.has_add]; done) | (simp [-List.map_take, -List.map_drop, or_imp, forall_and, Seg.a, Vec.a, Leg.a, num, okEl, cells_agg, cells_int, cells_sl, cells_bool, AV.isCell]; done) | (simp; omega))) (fun _ _ => ?_)) | (with_reducible refine appD_V (by refine ⟨?_, ?_, ?_, ?_, ?_⟩ <;> (first | assumption | omega | exact St.has_add (by assumption) | (simp only [ins_has]; exact St.has_add (by assumption)) | (simp only [ins_has, fresh_ins, kill_ins, add_ins] at *; exact St.has_add (by assumption)) | (simp only [*, ins_has, has_full, St.has_add]; done) | (simp [-List.map_take, -List.map_drop, or_imp, forall_and, Seg.a, Vec.a, Leg.a, num, okEl, cells_agg, cells_int, cells_sl, cells_bool, AV.isCell]; done) | (simp; omega))) (fun _ _ => ?_))) | (with_reducible refine freshQ_i (fun _ _ => ?_)) | (with_reducible refine nilQ_i (fun _ _ => ?_))))
theorem far_v (n : Int) : VPure Try.prog 126 [.int .i64 n] (.bool (farF n)) := by
  refine VPure.of v_slot_far_ok (Nat.le_of_ble_eq_true rfl) (fun Z st => ?_)
  simp only [v_slot_far, ↓vD, vU, VE.ev, VE.evs, retvs, tupOf, grab, vfill, vbsl, eqCells, eqCell, veqs, veqs1, vmnx, AV.isCell, AV.isUndef, Nat.reduceEqDiff, Nat.reduceAdd, Nat.reduceSub, Nat.reduceLeDiff, Nat.reduceLT, reduceIte, reduceCtorEq, Nat.reduceBEq, k_app, k_slc1]
  (repeat' (first | (simp (config := { maxDischargeDepth := 16 }) only [*, farF, ↓vD, vU, VE.ev, VE.evs, retvs, tupOf, grab, vfill, vbsl, eqCells, eqCell, veqs, veqs1, vmnx, AV.isCell, AV.isUndef, Nat.reduceEqDiff, Nat.reduceAdd, Nat.reduceSub, Nat.reduceLeDiff, Nat.reduceLT, reduceIte, reduceCtorEq, Nat.reduceBEq, k_app, k_slc1]) | (with_reducible refine gs (fun _ => ?_) (fun _ => ?_)) | (with_reducible refine cs_ (fun _ => ?_) (fun _ => ?_)) | (with_reducible refine objQ_i (fun _ _ => ?_); (repeat (with_reducible refine imp_i (fun _ => ?_)))) | (with_reducible refine appK_a ?_) | (with_reducible refine freshQ_i (fun _ _ => ?_)) | (with_reducible refine nilQ_i (fun _ _ => ?_))))
  all_goals simp_all
theorem check1_v (x : Leg) : VPure Try.prog 125 [Leg.a x] (.bool (!mayV x.v)) := by
  refine VPure.of v_slot_check_1_ok (Nat.le_of_ble_eq_true rfl) (fun Z st => ?_)
  simp only [v_slot_check_1, ↓vD, vU, VE.ev, VE.evs, retvs, tupOf, grab, vfill, vbsl, eqCells, eqCell, veqs, veqs1, vmnx, AV.isCell, AV.isUndef, Nat.reduceEqDiff, Nat.reduceAdd, Nat.reduceSub, Nat.reduceLeDiff, Nat.reduceLT, reduceIte, reduceCtorEq, Nat.reduceBEq, k_app, k_slc1]
  (repeat' (first | (simp (config := { maxDischargeDepth := 16 }) only [*, Leg.a, ↓vD, vU, VE.ev, VE.evs, retvs, tupOf, grab, vfill, vbsl, eqCells, eqCell, veqs, veqs1, vmnx, AV.isCell, AV.isUndef, Nat.reduceEqDiff, Nat.reduceAdd, Nat.reduceSub, Nat.reduceLeDiff, Nat.reduceLT, reduceIte, reduceCtorEq, Nat.reduceBEq, k_app, k_slc1]) | (with_reducible refine gs (fun _ => ?_) (fun _ => ?_)) | (with_reducible refine cs_ (fun _ => ?_) (fun _ => ?_)) | (with_reducible refine objQ_i (fun _ _ => ?_); (repeat (with_reducible refine imp_i (fun _ => ?_)))) | (with_reducible refine appK_a ?_) | (with_reducible refine freshQ_i (fun _ _ => ?_)) | (with_reducible refine nilQ_i (fun _ _ => ?_)) | (with_reducible first | refine callH_use (May_v _ _) ?_ | refine pureQ_use (May_v _ _) ?_)))
theorem u64_sub {m c : Int} (h1 : -9223372036854775808 ≤ m) (h2 : c ≤ 9223372036854775807) (h : m < c) : IntKind.u64.wrap (IntKind.i64.wrap (c - m)) = c - m := by
  simp only [IntKind.wrap, IntKind.bits, IntKind.signed]
  simp
  omega
theorem check_v (f : List Seg) (hf : f.length ≤ 1000000000) (w : Vec) (h1 : -9223372036854775808 ≤ w.m) (h2 : w.c ≤ 9223372036854775807) (l : List Leg) (hl : l.length ≤ 1000000000) (t t' : Tok) :
    VPure Try.prog 82 [.sl (f.map Seg.a) t, .agg [.int .i64 w.m, .int .i64 w.c], .sl (l.map Leg.a) t'] (.tup [num (checkF f w l).1, num (checkF f w l).2]) := by
  refine VPure.of v_slot_check_ok (Nat.le_of_ble_eq_true rfl) (fun Z st => ?_)
  have hm := May_F f (by omega) t
  have hL := Length_v l hl t'
  have hc := contains_pLeg (f := 125) (fs := []) (cs := []) l (by omega) t' (fun x => !mayV x.v) check1_v
  obtain ⟨q, hq⟩ : ∃ q, lengthF l = q := ⟨_, rfl⟩
  obtain ⟨g, hg⟩ : ∃ g, l.any (fun x => !mayV x.v) = g := ⟨_, rfl⟩
  obtain ⟨mf, hmf⟩ : ∃ m, mayF f = m := ⟨_, rfl⟩
  rw [hq] at hL
  rw [hg] at hc
  rw [hmf] at hm
  have HC : Hid (checkF f w l = if mf then (if q.2 ≠ 0 ∨ w.c ≤ w.m ∨ 4096 < w.c - w.m then (0, 2) else if farF w.m || farF w.c || g then (0, 10) else (q.1, 0)) else (0, 5)) := ⟨by unfold checkF; rw [hq, hg, hmf]⟩
  clear hq hg hmf
  unfold num at hL
  obtain ⟨a, ha⟩ : ∃ a, farF w.m = a := ⟨_, rfl⟩
  obtain ⟨b, hb⟩ : ∃ b, farF w.c = b := ⟨_, rfl⟩
  have f1 := far_v w.m
  have f2 := far_v w.c
  rw [ha] at f1 HC
  rw [hb] at f2 HC
  clear ha hb
  simp only [v_slot_check, ↓vD, vU, VE.ev, VE.evs, retvs, tupOf, grab, vfill, vbsl, eqCells, eqCell, veqs, veqs1, vmnx, AV.isCell, AV.isUndef, Nat.reduceEqDiff, Nat.reduceAdd, Nat.reduceSub, Nat.reduceLeDiff, Nat.reduceLT, reduceIte, reduceCtorEq, Nat.reduceBEq, k_app, k_slc1]
  cases mf with
  | false =>
    (repeat' (first | (simp (config := { maxDischargeDepth := 16 }) only [*, num, vX, Int.reduceLE, Int.reduceLT, Int.reduceGE, Int.reduceGT, Int.reduceBEq, Int.reduceBNe, Int.reduceAdd, Int.reduceSub, Int.reduceMul, Int.reduceNeg, ↓vD, vU, VE.ev, VE.evs, retvs, tupOf, grab, vfill, vbsl, eqCells, eqCell, veqs, veqs1, vmnx, AV.isCell, AV.isUndef, Nat.reduceEqDiff, Nat.reduceAdd, Nat.reduceSub, Nat.reduceLeDiff, Nat.reduceLT, reduceIte, reduceCtorEq, Nat.reduceBEq]) | (simp (disch := first | assumption | omega | exact Seg.len _ | exact Vec.len _ | exact Leg.len _ | exact num_len _ | exact rowA_len _ | exact rowA_len | exact rowT_len _ | exact rowT_len | exact Seg.len | exact Vec.len | exact Leg.len | exact num_len | exact AV.slen _ _ | rfl) only [num, vP]) | (with_reducible (first | refine gsnd (fun _ => ?_) (fun _ => ?_) | refine csnd (fun _ => ?_) (fun _ => ?_) | refine gsd (fun _ => ?_) (fun _ => ?_) | refine csd (fun _ => ?_) (fun _ => ?_) | refine gsn (fun _ => ?_) (fun _ => ?_) | refine csn (fun _ => ?_) (fun _ => ?_))) | (with_reducible refine gs (fun _ => ?_) (fun _ => ?_)) | (with_reducible refine cs_ (fun _ => ?_) (fun _ => ?_)) | (with_reducible refine objQ_i (fun _ _ => ?_); (repeat (with_reducible refine imp_i (fun _ => ?_)))) | ((try with_reducible refine appK_a ?_); first | (with_reducible refine appD_F (by refine ⟨?_, ?_, ?_, ?_⟩ <;> (first | assumption | omega | exact St.has_add (by assumption) | (simp only [ins_has]; exact St.has_add (by assumption)) | (simp only [ins_has, fresh_ins, kill_ins, add_ins] at *; exact St.has_add (by assumption)) | (simp only [*, ins_has, has_full, St.has_add]; done) | (simp [-List.map_take, -List.map_drop, or_imp, forall_and, Seg.a, Vec.a, Leg.a, num, okEl, cells_agg, cells_int, cells_sl, cells_bool, AV.isCell]; done) | (simp; omega))) (fun _ _ => ?_)) | (with_reducible refine appD_V (by refine ⟨?_, ?_, ?_, ?_, ?_⟩ <;> (first | assumption | omega | exact St.has_add (by assumption) | (simp only [ins_has]; exact St.has_add (by assumption)) | (simp only [ins_has, fresh_ins, kill_ins, add_ins] at *; exact St.has_add (by assumption)) | (simp only [*, ins_has, has_full, St.has_add]; done) | (simp [-List.map_take, -List.map_drop, or_imp, forall_and, Seg.a, Vec.a, Leg.a, num, okEl, cells_agg, cells_int, cells_sl, cells_bool, AV.isCell]; done) | (simp; omega))) (fun _ _ => ?_))) | (with_reducible refine freshQ_i (fun _ _ => ?_)) | (with_reducible refine nilQ_i (fun _ _ => ?_)) | (with_reducible first | refine callH_use (hm) ?_ | refine pureQ_use (hm) ?_)))
    rw [HC.out]; simp
  | true =>
    by_cases hq : q.2 = 0
    case neg =>
      (repeat' (first | (simp (config := { maxDischargeDepth := 16 }) only [*, num, vX, Int.reduceLE, Int.reduceLT, Int.reduceGE, Int.reduceGT, Int.reduceBEq, Int.reduceBNe, Int.reduceAdd, Int.reduceSub, Int.reduceMul, Int.reduceNeg, ↓vD, vU, VE.ev, VE.evs, retvs, tupOf, grab, vfill, vbsl, eqCells, eqCell, veqs, veqs1, vmnx, AV.isCell, AV.isUndef, Nat.reduceEqDiff, Nat.reduceAdd, Nat.reduceSub, Nat.reduceLeDiff, Nat.reduceLT, reduceIte, reduceCtorEq, Nat.reduceBEq]) | (simp (disch := first | assumption | omega | exact Seg.len _ | exact Vec.len _ | exact Leg.len _ | exact num_len _ | exact rowA_len _ | exact rowA_len | exact rowT_len _ | exact rowT_len | exact Seg.len | exact Vec.len | exact Leg.len | exact num_len | exact AV.slen _ _ | rfl) only [num, vP]) | (with_reducible (first | refine gsnd (fun _ => ?_) (fun _ => ?_) | refine csnd (fun _ => ?_) (fun _ => ?_) | refine gsd (fun _ => ?_) (fun _ => ?_) | refine csd (fun _ => ?_) (fun _ => ?_) | refine gsn (fun _ => ?_) (fun _ => ?_) | refine csn (fun _ => ?_) (fun _ => ?_))) | (with_reducible refine gs (fun _ => ?_) (fun _ => ?_)) | (with_reducible refine cs_ (fun _ => ?_) (fun _ => ?_)) | (with_reducible refine objQ_i (fun _ _ => ?_); (repeat (with_reducible refine imp_i (fun _ => ?_)))) | ((try with_reducible refine appK_a ?_); first | (with_reducible refine appD_F (by refine ⟨?_, ?_, ?_, ?_⟩ <;> (first | assumption | omega | exact St.has_add (by assumption) | (simp only [ins_has]; exact St.has_add (by assumption)) | (simp only [ins_has, fresh_ins, kill_ins, add_ins] at *; exact St.has_add (by assumption)) | (simp only [*, ins_has, has_full, St.has_add]; done) | (simp [-List.map_take, -List.map_drop, or_imp, forall_and, Seg.a, Vec.a, Leg.a, num, okEl, cells_agg, cells_int, cells_sl, cells_bool, AV.isCell]; done) | (simp; omega))) (fun _ _ => ?_)) | (with_reducible refine appD_V (by refine ⟨?_, ?_, ?_, ?_, ?_⟩ <;> (first | assumption | omega | exact St.has_add (by assumption) | (simp only [ins_has]; exact St.has_add (by assumption)) | (simp only [ins_has, fresh_ins, kill_ins, add_ins] at *; exact St.has_add (by assumption)) | (simp only [*, ins_has, has_full, St.has_add]; done) | (simp [-List.map_take, -List.map_drop, or_imp, forall_and, Seg.a, Vec.a, Leg.a, num, okEl, cells_agg, cells_int, cells_sl, cells_bool, AV.isCell]; done) | (simp; omega))) (fun _ _ => ?_))) | (with_reducible refine freshQ_i (fun _ _ => ?_)) | (with_reducible refine nilQ_i (fun _ _ => ?_)) | (with_reducible first | refine callH_use (hm) ?_ | refine pureQ_use (hm) ?_) | (with_reducible first | refine callH_use (hL) ?_ | refine pureQ_use (hL) ?_)))
      all_goals (rw [HC.out]; simp [hq])
    by_cases hw : w.m < w.c
    case neg =>
      have e : checkF f w l = (0, 2) := by rw [HC.out]; simp; intros; omega
      clear HC
      rw [e]
      (repeat' (first | (simp (config := { maxDischargeDepth := 16 }) only [*, num, vX, Int.reduceLE, Int.reduceLT, Int.reduceGE, Int.reduceGT, Int.reduceBEq, Int.reduceBNe, Int.reduceAdd, Int.reduceSub, Int.reduceMul, Int.reduceNeg, ↓vD, vU, VE.ev, VE.evs, retvs, tupOf, grab, vfill, vbsl, eqCells, eqCell, veqs, veqs1, vmnx, AV.isCell, AV.isUndef, Nat.reduceEqDiff, Nat.reduceAdd, Nat.reduceSub, Nat.reduceLeDiff, Nat.reduceLT, reduceIte, reduceCtorEq, Nat.reduceBEq]) | (simp (disch := first | assumption | omega | exact Seg.len _ | exact Vec.len _ | exact Leg.len _ | exact num_len _ | exact rowA_len _ | exact rowA_len | exact rowT_len _ | exact rowT_len | exact Seg.len | exact Vec.len | exact Leg.len | exact num_len | exact AV.slen _ _ | rfl) only [num, vP]) | (with_reducible (first | refine gsnd (fun _ => ?_) (fun _ => ?_) | refine csnd (fun _ => ?_) (fun _ => ?_) | refine gsd (fun _ => ?_) (fun _ => ?_) | refine csd (fun _ => ?_) (fun _ => ?_) | refine gsn (fun _ => ?_) (fun _ => ?_) | refine csn (fun _ => ?_) (fun _ => ?_))) | (with_reducible refine gs (fun _ => ?_) (fun _ => ?_)) | (with_reducible refine cs_ (fun _ => ?_) (fun _ => ?_)) | (with_reducible refine objQ_i (fun _ _ => ?_); (repeat (with_reducible refine imp_i (fun _ => ?_)))) | ((try with_reducible refine appK_a ?_); first | (with_reducible refine appD_F (by refine ⟨?_, ?_, ?_, ?_⟩ <;> (first | assumption | omega | exact St.has_add (by assumption) | (simp only [ins_has]; exact St.has_add (by assumption)) | (simp only [ins_has, fresh_ins, kill_ins, add_ins] at *; exact St.has_add (by assumption)) | (simp only [*, ins_has, has_full, St.has_add]; done) | (simp [-List.map_take, -List.map_drop, or_imp, forall_and, Seg.a, Vec.a, Leg.a, num, okEl, cells_agg, cells_int, cells_sl, cells_bool, AV.isCell]; done) | (simp; omega))) (fun _ _ => ?_)) | (with_reducible refine appD_V (by refine ⟨?_, ?_, ?_, ?_, ?_⟩ <;> (first | assumption | omega | exact St.has_add (by assumption) | (simp only [ins_has]; exact St.has_add (by assumption)) | (simp only [ins_has, fresh_ins, kill_ins, add_ins] at *; exact St.has_add (by assumption)) | (simp only [*, ins_has, has_full, St.has_add]; done) | (simp [-List.map_take, -List.map_drop, or_imp, forall_and, Seg.a, Vec.a, Leg.a, num, okEl, cells_agg, cells_int, cells_sl, cells_bool, AV.isCell]; done) | (simp; omega))) (fun _ _ => ?_))) | (with_reducible refine freshQ_i (fun _ _ => ?_)) | (with_reducible refine nilQ_i (fun _ _ => ?_)) | (with_reducible first | refine callH_use (hm) ?_ | refine pureQ_use (hm) ?_) | (with_reducible first | refine callH_use (hL) ?_ | refine pureQ_use (hL) ?_)))
    have hu := u64_sub h1 h2 hw
    by_cases hbig : 4096 < w.c - w.m
    · have hdec : decide (4096 < w.c - w.m) = true := by simpa using hbig
      (repeat' (first | (simp (config := { maxDischargeDepth := 16 }) only [*, num, hu, vX, Int.reduceLE, Int.reduceLT, Int.reduceGE, Int.reduceGT, Int.reduceBEq, Int.reduceBNe, Int.reduceAdd, Int.reduceSub, Int.reduceMul, Int.reduceNeg, ↓vD, vU, VE.ev, VE.evs, retvs, tupOf, grab, vfill, vbsl, eqCells, eqCell, veqs, veqs1, vmnx, AV.isCell, AV.isUndef, Nat.reduceEqDiff, Nat.reduceAdd, Nat.reduceSub, Nat.reduceLeDiff, Nat.reduceLT, reduceIte, reduceCtorEq, Nat.reduceBEq]) | (simp (disch := first | assumption | omega | exact Seg.len _ | exact Vec.len _ | exact Leg.len _ | exact num_len _ | exact rowA_len _ | exact rowA_len | exact rowT_len _ | exact rowT_len | exact Seg.len | exact Vec.len | exact Leg.len | exact num_len | exact AV.slen _ _ | rfl) only [num, hu, vP]) | (with_reducible (first | refine gsnd (fun _ => ?_) (fun _ => ?_) | refine csnd (fun _ => ?_) (fun _ => ?_) | refine gsd (fun _ => ?_) (fun _ => ?_) | refine csd (fun _ => ?_) (fun _ => ?_) | refine gsn (fun _ => ?_) (fun _ => ?_) | refine csn (fun _ => ?_) (fun _ => ?_))) | (with_reducible refine gs (fun _ => ?_) (fun _ => ?_)) | (with_reducible refine cs_ (fun _ => ?_) (fun _ => ?_)) | (with_reducible refine objQ_i (fun _ _ => ?_); (repeat (with_reducible refine imp_i (fun _ => ?_)))) | ((try with_reducible refine appK_a ?_); first | (with_reducible refine appD_F (by refine ⟨?_, ?_, ?_, ?_⟩ <;> (first | assumption | omega | exact St.has_add (by assumption) | (simp only [ins_has]; exact St.has_add (by assumption)) | (simp only [ins_has, fresh_ins, kill_ins, add_ins] at *; exact St.has_add (by assumption)) | (simp only [*, ins_has, has_full, St.has_add]; done) | (simp [-List.map_take, -List.map_drop, or_imp, forall_and, Seg.a, Vec.a, Leg.a, num, okEl, cells_agg, cells_int, cells_sl, cells_bool, AV.isCell]; done) | (simp; omega))) (fun _ _ => ?_)) | (with_reducible refine appD_V (by refine ⟨?_, ?_, ?_, ?_, ?_⟩ <;> (first | assumption | omega | exact St.has_add (by assumption) | (simp only [ins_has]; exact St.has_add (by assumption)) | (simp only [ins_has, fresh_ins, kill_ins, add_ins] at *; exact St.has_add (by assumption)) | (simp only [*, ins_has, has_full, St.has_add]; done) | (simp [-List.map_take, -List.map_drop, or_imp, forall_and, Seg.a, Vec.a, Leg.a, num, okEl, cells_agg, cells_int, cells_sl, cells_bool, AV.isCell]; done) | (simp; omega))) (fun _ _ => ?_))) | (with_reducible refine freshQ_i (fun _ _ => ?_)) | (with_reducible refine nilQ_i (fun _ _ => ?_)) | (with_reducible first | refine callH_use (hm) ?_ | refine pureQ_use (hm) ?_) | (with_reducible first | refine callH_use (hL) ?_ | refine pureQ_use (hL) ?_)))
      all_goals (rw [HC.out]; simp [hbig])
    have hw2 : IntKind.i64.wrap (w.c - w.m) = w.c - w.m := wrap_i64 _ (by omega) (by omega)
    rw [hw2] at hu
    have HN : Hid (checkF f w l = if a || b || g then (0, 10) else (q.1, 0)) := ⟨by rw [HC.out]; simp [hq]; intro h; omega⟩
    clear HC
    cases a <;> cases b <;> cases g <;> ((repeat' (first | (simp (config := { maxDischargeDepth := 16 }) only [*, num, hu, vX, Int.reduceLE, Int.reduceLT, Int.reduceGE, Int.reduceGT, Int.reduceBEq, Int.reduceBNe, Int.reduceAdd, Int.reduceSub, Int.reduceMul, Int.reduceNeg, ↓vD, vU, VE.ev, VE.evs, retvs, tupOf, grab, vfill, vbsl, eqCells, eqCell, veqs, veqs1, vmnx, AV.isCell, AV.isUndef, Nat.reduceEqDiff, Nat.reduceAdd, Nat.reduceSub, Nat.reduceLeDiff, Nat.reduceLT, reduceIte, reduceCtorEq, Nat.reduceBEq]) | (simp (disch := first | assumption | omega | exact Seg.len _ | exact Vec.len _ | exact Leg.len _ | exact num_len _ | exact rowA_len _ | exact rowA_len | exact rowT_len _ | exact rowT_len | exact Seg.len | exact Vec.len | exact Leg.len | exact num_len | exact AV.slen _ _ | rfl) only [num, hu, vP]) | (with_reducible (first | refine gsnd (fun _ => ?_) (fun _ => ?_) | refine csnd (fun _ => ?_) (fun _ => ?_) | refine gsd (fun _ => ?_) (fun _ => ?_) | refine csd (fun _ => ?_) (fun _ => ?_) | refine gsn (fun _ => ?_) (fun _ => ?_) | refine csn (fun _ => ?_) (fun _ => ?_))) | (with_reducible refine gs (fun _ => ?_) (fun _ => ?_)) | (with_reducible refine cs_ (fun _ => ?_) (fun _ => ?_)) | (with_reducible refine objQ_i (fun _ _ => ?_); (repeat (with_reducible refine imp_i (fun _ => ?_)))) | ((try with_reducible refine appK_a ?_); first | (with_reducible refine appD_F (by refine ⟨?_, ?_, ?_, ?_⟩ <;> (first | assumption | omega | exact St.has_add (by assumption) | (simp only [ins_has]; exact St.has_add (by assumption)) | (simp only [ins_has, fresh_ins, kill_ins, add_ins] at *; exact St.has_add (by assumption)) | (simp only [*, ins_has, has_full, St.has_add]; done) | (simp [-List.map_take, -List.map_drop, or_imp, forall_and, Seg.a, Vec.a, Leg.a, num, okEl, cells_agg, cells_int, cells_sl, cells_bool, AV.isCell]; done) | (simp; omega))) (fun _ _ => ?_)) | (with_reducible refine appD_V (by refine ⟨?_, ?_, ?_, ?_, ?_⟩ <;> (first | assumption | omega | exact St.has_add (by assumption) | (simp only [ins_has]; exact St.has_add (by assumption)) | (simp only [ins_has, fresh_ins, kill_ins, add_ins] at *; exact St.has_add (by assumption)) | (simp only [*, ins_has, has_full, St.has_add]; done) | (simp [-List.map_take, -List.map_drop, or_imp, forall_and, Seg.a, Vec.a, Leg.a, num, okEl, cells_agg, cells_int, cells_sl, cells_bool, AV.isCell]; done) | (simp; omega))) (fun _ _ => ?_))) | (with_reducible refine freshQ_i (fun _ _ => ?_)) | (with_reducible refine nilQ_i (fun _ _ => ?_)) | (with_reducible first | refine callH_use (hm) ?_ | refine pureQ_use (hm) ?_) | (with_reducible first | refine callH_use (hL) ?_ | refine pureQ_use (hL) ?_) | (with_reducible first | refine callH_use (f1) ?_ | refine pureQ_use (f1) ?_) | (with_reducible first | refine callH_use (f2) ?_ | refine pureQ_use (f2) ?_) | (with_reducible first | refine callH_use (hc) ?_ | refine pureQ_use (hc) ?_))))
    all_goals (first | rw [HN.out]; simp)
theorem cut0 (xs : List AV) (t : Tok) (q q' : IntKind) : vslc (.sl xs t) none (some (.int q 0)) (some (.int q' 0)) = some (.sl [] .full) := by
  simp [vslc, bnd]
theorem grab01 (a b c d : AV) : vixa 2 2 true (.agg [a, b, c, d]) (.int .i64 0) = some (.agg [a, b]) := rfl
theorem grab23 (a b c d : AV) : vixa 2 2 true (.agg [a, b, c, d]) (.int .i64 1) = some (.agg [c, d]) := rfl
theorem end_v (l : List Vec) (hl : l.length ≤ 1000000000) (t : Tok) {gf : Nat} {fs cs : List AV} (g : List Vec → Int) (hg : l ≠ [] → VPure Try.prog gf (fs ++ [.sl (l.map Vec.a) t] ++ cs) (.int .i64 (g l))) :
    VPure Try.prog 122 [.sl (l.map Vec.a) t, .clo gf fs cs] (.tup [num (if l = [] then 0 else g l), num (if l = [] then 210 else 0)]) := by
  refine VPure.of v_slot_end_int64_ok (Nat.le_of_ble_eq_true rfl) (fun Z st => ?_)
  simp only [v_slot_end_int64, ↓vD, vU, VE.ev, VE.evs, retvs, tupOf, grab, vfill, vbsl, eqCells, eqCell, veqs, veqs1, vmnx, AV.isCell, AV.isUndef, Nat.reduceEqDiff, Nat.reduceAdd, Nat.reduceSub, Nat.reduceLeDiff, Nat.reduceLT, reduceIte, reduceCtorEq, Nat.reduceBEq, k_app, k_slc1]
  cases l with
  | nil =>
    (repeat' (first | (simp (config := { maxDischargeDepth := 16 }) only [*, num, vX, Int.reduceLE, Int.reduceLT, Int.reduceGE, Int.reduceGT, Int.reduceBEq, Int.reduceBNe, Int.reduceAdd, Int.reduceSub, Int.reduceMul, Int.reduceNeg, ↓vD, vU, VE.ev, VE.evs, retvs, tupOf, grab, vfill, vbsl, eqCells, eqCell, veqs, veqs1, vmnx, AV.isCell, AV.isUndef, Nat.reduceEqDiff, Nat.reduceAdd, Nat.reduceSub, Nat.reduceLeDiff, Nat.reduceLT, reduceIte, reduceCtorEq, Nat.reduceBEq]) | (simp (disch := first | assumption | omega | exact Seg.len _ | exact Vec.len _ | exact Leg.len _ | exact num_len _ | exact rowA_len _ | exact rowA_len | exact rowT_len _ | exact rowT_len | exact Seg.len | exact Vec.len | exact Leg.len | exact num_len | exact AV.slen _ _ | rfl) only [num, vP]) | (with_reducible (first | refine gsnd (fun _ => ?_) (fun _ => ?_) | refine csnd (fun _ => ?_) (fun _ => ?_) | refine gsd (fun _ => ?_) (fun _ => ?_) | refine csd (fun _ => ?_) (fun _ => ?_) | refine gsn (fun _ => ?_) (fun _ => ?_) | refine csn (fun _ => ?_) (fun _ => ?_))) | (with_reducible refine gs (fun _ => ?_) (fun _ => ?_)) | (with_reducible refine cs_ (fun _ => ?_) (fun _ => ?_)) | (with_reducible refine objQ_i (fun _ _ => ?_); (repeat (with_reducible refine imp_i (fun _ => ?_)))) | ((try with_reducible refine appK_a ?_); first | (with_reducible refine appD_F (by refine ⟨?_, ?_, ?_, ?_⟩ <;> (first | assumption | omega | exact St.has_add (by assumption) | (simp only [ins_has]; exact St.has_add (by assumption)) | (simp only [ins_has, fresh_ins, kill_ins, add_ins] at *; exact St.has_add (by assumption)) | (simp only [*, ins_has, has_full, St.has_add]; done) | (simp [-List.map_take, -List.map_drop, or_imp, forall_and, Seg.a, Vec.a, Leg.a, num, okEl, cells_agg, cells_int, cells_sl, cells_bool, AV.isCell]; done) | (simp; omega))) (fun _ _ => ?_)) | (with_reducible refine appD_V (by refine ⟨?_, ?_, ?_, ?_, ?_⟩ <;> (first | assumption | omega | exact St.has_add (by assumption) | (simp only [ins_has]; exact St.has_add (by assumption)) | (simp only [ins_has, fresh_ins, kill_ins, add_ins] at *; exact St.has_add (by assumption)) | (simp only [*, ins_has, has_full, St.has_add]; done) | (simp [-List.map_take, -List.map_drop, or_imp, forall_and, Seg.a, Vec.a, Leg.a, num, okEl, cells_agg, cells_int, cells_sl, cells_bool, AV.isCell]; done) | (simp; omega))) (fun _ _ => ?_))) | (with_reducible refine freshQ_i (fun _ _ => ?_)) | (with_reducible refine nilQ_i (fun _ _ => ?_))))
  | cons x r =>
    have hg' := hg (by simp)
    have hne : ((x :: r).length : Int) ≠ 0 := by simp; omega
    obtain ⟨y, hy⟩ : ∃ y, x :: r = y := ⟨_, rfl⟩
    have hy0 : y ≠ [] := by rw [← hy]; simp
    rw [hy] at hne hg' hl ⊢
    clear hy hg
    (repeat' (first | (simp (config := { maxDischargeDepth := 16 }) only [*, num, vX, Int.reduceLE, Int.reduceLT, Int.reduceGE, Int.reduceGT, Int.reduceBEq, Int.reduceBNe, Int.reduceAdd, Int.reduceSub, Int.reduceMul, Int.reduceNeg, ↓vD, vU, VE.ev, VE.evs, retvs, tupOf, grab, vfill, vbsl, eqCells, eqCell, veqs, veqs1, vmnx, AV.isCell, AV.isUndef, Nat.reduceEqDiff, Nat.reduceAdd, Nat.reduceSub, Nat.reduceLeDiff, Nat.reduceLT, reduceIte, reduceCtorEq, Nat.reduceBEq]) | (simp (disch := first | assumption | omega | exact Seg.len _ | exact Vec.len _ | exact Leg.len _ | exact num_len _ | exact rowA_len _ | exact rowA_len | exact rowT_len _ | exact rowT_len | exact Seg.len | exact Vec.len | exact Leg.len | exact num_len | exact AV.slen _ _ | rfl) only [num, vP]) | (with_reducible (first | refine gsnd (fun _ => ?_) (fun _ => ?_) | refine csnd (fun _ => ?_) (fun _ => ?_) | refine gsd (fun _ => ?_) (fun _ => ?_) | refine csd (fun _ => ?_) (fun _ => ?_) | refine gsn (fun _ => ?_) (fun _ => ?_) | refine csn (fun _ => ?_) (fun _ => ?_))) | (with_reducible refine gs (fun _ => ?_) (fun _ => ?_)) | (with_reducible refine cs_ (fun _ => ?_) (fun _ => ?_)) | (with_reducible refine objQ_i (fun _ _ => ?_); (repeat (with_reducible refine imp_i (fun _ => ?_)))) | ((try with_reducible refine appK_a ?_); first | (with_reducible refine appD_F (by refine ⟨?_, ?_, ?_, ?_⟩ <;> (first | assumption | omega | exact St.has_add (by assumption) | (simp only [ins_has]; exact St.has_add (by assumption)) | (simp only [ins_has, fresh_ins, kill_ins, add_ins] at *; exact St.has_add (by assumption)) | (simp only [*, ins_has, has_full, St.has_add]; done) | (simp [-List.map_take, -List.map_drop, or_imp, forall_and, Seg.a, Vec.a, Leg.a, num, okEl, cells_agg, cells_int, cells_sl, cells_bool, AV.isCell]; done) | (simp; omega))) (fun _ _ => ?_)) | (with_reducible refine appD_V (by refine ⟨?_, ?_, ?_, ?_, ?_⟩ <;> (first | assumption | omega | exact St.has_add (by assumption) | (simp only [ins_has]; exact St.has_add (by assumption)) | (simp only [ins_has, fresh_ins, kill_ins, add_ins] at *; exact St.has_add (by assumption)) | (simp only [*, ins_has, has_full, St.has_add]; done) | (simp [-List.map_take, -List.map_drop, or_imp, forall_and, Seg.a, Vec.a, Leg.a, num, okEl, cells_agg, cells_int, cells_sl, cells_bool, AV.isCell]; done) | (simp; omega))) (fun _ _ => ?_))) | (with_reducible refine freshQ_i (fun _ _ => ?_)) | (with_reducible refine nilQ_i (fun _ _ => ?_)) | (with_reducible first | refine callH_use (hg') ?_ | refine pureQ_use (hg') ?_)))
end Go.Proofs.Ytddbnncimggogaa.V
end
section
set_option linter.unusedSimpArgs false
set_option linter.unusedVariables false
/- slot.low and its iterator. -/
namespace Go.Proofs.Ytddbnncimggogaa.V
open Go Go.Proofs
set_option maxRecDepth 100000
set_option maxHeartbeats 4000000
theorem low_c (f : List Seg) (w v : Vec) (t : Tok) : VPure Try.prog 83 [.sl (f.map Seg.a) t, w.a, v.a] (.clo 128 [] [.iptr w.a 0, .iptr (.sl (f.map Seg.a) t) 0, .iptr v.a 0]) := fun Z st => by
  have h : VCalls Try.prog Z 83 [.sl (f.map Seg.a) t, w.a, v.a] st (fun r s => ∃ bf bw bv, st.objs bf = none ∧ st.objs bw = none ∧ st.objs bv = none ∧ ¬ bf = bw ∧ ¬ bf = bv ∧ ¬ bw = bv ∧ r = .clo 128 [] [.ptr bw 0, .ptr bf 0, .ptr bv 0] ∧
      s = ((st.ins bf (.cells [.sl (f.map Seg.a) t])).ins bw (.cells [.int .i64 w.m, .int .i64 w.c])).ins bv (.cells [.int .i64 v.m, .int .i64 v.c])) := by
    refine VCalls.of v_slot_low_ok (Nat.le_of_ble_eq_true rfl) ?_
    simp only [v_slot_low, ↓vD, vU, VE.ev, VE.evs, retvs, tupOf, grab, vfill, vbsl, eqCells, eqCell, veqs, veqs1, vmnx, AV.isCell, AV.isUndef, Nat.reduceEqDiff, Nat.reduceAdd, Nat.reduceSub, Nat.reduceLeDiff, Nat.reduceLT, reduceIte, reduceCtorEq, Nat.reduceBEq, k_app, k_slc1]
    (repeat' (first | (simp (config := { maxDischargeDepth := 16 }) only [*, Vec.a, vX, Int.reduceLE, Int.reduceLT, Int.reduceGE, Int.reduceGT, Int.reduceBEq, Int.reduceBNe, Int.reduceAdd, Int.reduceSub, Int.reduceMul, Int.reduceNeg, ↓vD, vU, VE.ev, VE.evs, retvs, tupOf, grab, vfill, vbsl, eqCells, eqCell, veqs, veqs1, vmnx, AV.isCell, AV.isUndef, Nat.reduceEqDiff, Nat.reduceAdd, Nat.reduceSub, Nat.reduceLeDiff, Nat.reduceLT, reduceIte, reduceCtorEq, Nat.reduceBEq]) | (simp (disch := first | assumption | omega | exact Seg.len _ | exact Vec.len _ | exact Leg.len _ | exact num_len _ | exact rowA_len _ | exact rowA_len | exact rowT_len _ | exact rowT_len | exact Seg.len | exact Vec.len | exact Leg.len | exact num_len | exact AV.slen _ _ | rfl) only [Vec.a, vP]) | (with_reducible (first | refine gsnd (fun _ => ?_) (fun _ => ?_) | refine csnd (fun _ => ?_) (fun _ => ?_) | refine gsd (fun _ => ?_) (fun _ => ?_) | refine csd (fun _ => ?_) (fun _ => ?_) | refine gsn (fun _ => ?_) (fun _ => ?_) | refine csn (fun _ => ?_) (fun _ => ?_))) | (with_reducible refine gs (fun _ => ?_) (fun _ => ?_)) | (with_reducible refine cs_ (fun _ => ?_) (fun _ => ?_)) | (with_reducible refine objQ_i (fun _ _ => ?_); (repeat (with_reducible refine imp_i (fun _ => ?_)))) | ((try with_reducible refine appK_a ?_); first | (with_reducible refine appD_F (by refine ⟨?_, ?_, ?_, ?_⟩ <;> (first | assumption | omega | exact St.has_add (by assumption) | (simp only [ins_has]; exact St.has_add (by assumption)) | (simp only [ins_has, fresh_ins, kill_ins, add_ins] at *; exact St.has_add (by assumption)) | (simp only [*, ins_has, has_full, St.has_add]; done) | (simp [-List.map_take, -List.map_drop, or_imp, forall_and, Seg.a, Vec.a, Leg.a, num, okEl, cells_agg, cells_int, cells_sl, cells_bool, AV.isCell]; done) | (simp; omega))) (fun _ _ => ?_)) | (with_reducible refine appD_V (by refine ⟨?_, ?_, ?_, ?_, ?_⟩ <;> (first | assumption | omega | exact St.has_add (by assumption) | (simp only [ins_has]; exact St.has_add (by assumption)) | (simp only [ins_has, fresh_ins, kill_ins, add_ins] at *; exact St.has_add (by assumption)) | (simp only [*, ins_has, has_full, St.has_add]; done) | (simp [-List.map_take, -List.map_drop, or_imp, forall_and, Seg.a, Vec.a, Leg.a, num, okEl, cells_agg, cells_int, cells_sl, cells_bool, AV.isCell]; done) | (simp; omega))) (fun _ _ => ?_))) | (with_reducible refine freshQ_i (fun _ _ => ?_)) | (with_reducible refine nilQ_i (fun _ _ => ?_))))
    rename_i bf hf bw hw n1 n2 bv hv n3 n4 n5 n6
    exact ⟨_, St.le.refl _, bf, bw, bv, hf, hw, hv, n2, n4, n6, rfl, rfl⟩
  refine h.wk ?_
  rintro _ _ ⟨bf, bw, bv, hf, hw, hv, n1, n2, n3, rfl, rfl⟩
  have n1' : ¬ bw = bf := fun e => n1 e.symm
  have n2' : ¬ bv = bf := fun e => n2 e.symm
  have n3' : ¬ bv = bw := fun e => n3 e.symm
  (refine ⟨_, st, (Wk.fz _ (b := bw) (x := w.a) (by first | (simp only [St.ins, St.del, *, if_true, if_false, eq_self, not_false_eq_true, ite_true, ite_false]; first | done | rfl) | (simp [St.ins, St.del, *]; done) | (simp [St.ins, St.del, *]; rfl)) (by first | rfl | simp [okEl, AV.cells, AV.isCell]) (by first | exact Nat.zero_lt_succ _ | simp [AV.cells]) _).trans ((Wk.fz _ (b := bf) (x := .sl (f.map Seg.a) t) (by first | (simp only [St.ins, St.del, *, if_true, if_false, eq_self, not_false_eq_true, ite_true, ite_false]; first | done | rfl) | (simp [St.ins, St.del, *]; done) | (simp [St.ins, St.del, *]; rfl)) (by first | rfl | simp [okEl, AV.cells, AV.isCell]) (by first | exact Nat.zero_lt_succ _ | simp [AV.cells]) _).trans ((Wk.fz _ (b := bv) (x := v.a) (by first | (simp only [St.ins, St.del, *, if_true, if_false, eq_self, not_false_eq_true, ite_true, ite_false]; first | done | rfl) | (simp [St.ins, St.del, *]; done) | (simp [St.ins, St.del, *]; rfl)) (by first | rfl | simp [okEl, AV.cells, AV.isCell]) (by first | exact Nat.zero_lt_succ _ | simp [AV.cells]) _).trans (Wk.le (by (refine ⟨fun i o e => ?_, fun _ h => h⟩; revert e; simp only [St.ins, St.del, add_objs, kill_objs]; (repeat' split); all_goals (first | exact id | (intros; contradiction) | (intros; subst_vars; contradiction) | (intros; simp_all; done) | (intros; subst_vars; simp_all; done)))) _))), ?_⟩; simp only [AV.sub, AV.subL, *, if_true, if_false, eq_self, ite_true, ite_false])
  try exact ⟨trivial, trivial⟩
theorem low_it (f : List Seg) (hn : f.length ≤ 1000000000) (w v : Vec) (t : Tok) : VIter Try.prog 128 [] [.iptr w.a 0, .iptr (.sl (f.map Seg.a) t) 0, .iptr v.a 0] ((lowF f w v).map fun b => [b.a]) := by
  intro Y l I E S0 h0 hy
  obtain ⟨L, hL⟩ : ∃ L, lowF f w v = L := ⟨_, rfl⟩
  simp only [hL, List.length_map, List.getElem_map] at hy ⊢
  have hAt := At_v f (by omega) t w.m
  obtain ⟨u0, hu0⟩ : ∃ u, atF f w.m = u := ⟨_, rfl⟩
  rw [hu0] at hAt
  have HL : Hid (L = lowGo w v f w.m u0) := ⟨by rw [← hL, ← hu0]; rfl⟩
  have HY : Hid (∀ k it r, L.drop k = it :: r → ∀ S, I k S → VYield Try.prog Y l [it.a] S (YY I E k)) := ⟨fun k it r h => by
    obtain ⟨hk, rfl, _⟩ := drop_cons h
    exact hy k hk⟩
  have hLE := LE_v v.m v.c
  clear hL hu0 hy
  refine VCalls.of v_slot_low_1_ok (Nat.le_of_ble_eq_true rfl) ?_
  simp only [v_slot_low_1, List.nil_append, List.cons_append, ↓vD, vU, VE.ev, VE.evs, retvs, tupOf, grab, vfill, vbsl, eqCells, eqCell, veqs, veqs1, vmnx, AV.isCell, AV.isUndef, Nat.reduceEqDiff, Nat.reduceAdd, Nat.reduceSub, Nat.reduceLeDiff, Nat.reduceLT, reduceIte, reduceCtorEq, Nat.reduceBEq, k_app, k_slc1]
  (repeat' (first | (simp (config := { maxDischargeDepth := 16 }) only [*, num, Vec.a, vX, Int.reduceLE, Int.reduceLT, Int.reduceGE, Int.reduceGT, Int.reduceBEq, Int.reduceBNe, Int.reduceAdd, Int.reduceSub, Int.reduceMul, Int.reduceNeg, ↓vD, vU, VE.ev, VE.evs, retvs, tupOf, grab, vfill, vbsl, eqCells, eqCell, veqs, veqs1, vmnx, AV.isCell, AV.isUndef, Nat.reduceEqDiff, Nat.reduceAdd, Nat.reduceSub, Nat.reduceLeDiff, Nat.reduceLT, reduceIte, reduceCtorEq, Nat.reduceBEq]) | (simp (disch := first | assumption | omega | exact Seg.len _ | exact Vec.len _ | exact Leg.len _ | exact num_len _ | exact rowA_len _ | exact rowA_len | exact rowT_len _ | exact rowT_len | exact Seg.len | exact Vec.len | exact Leg.len | exact num_len | exact AV.slen _ _ | rfl) only [num, Vec.a, vP]) | (with_reducible (first | refine gsnd (fun _ => ?_) (fun _ => ?_) | refine csnd (fun _ => ?_) (fun _ => ?_) | refine gsd (fun _ => ?_) (fun _ => ?_) | refine csd (fun _ => ?_) (fun _ => ?_) | refine gsn (fun _ => ?_) (fun _ => ?_) | refine csn (fun _ => ?_) (fun _ => ?_))) | (with_reducible refine gs (fun _ => ?_) (fun _ => ?_)) | (with_reducible refine cs_ (fun _ => ?_) (fun _ => ?_)) | (with_reducible refine objQ_i (fun _ _ => ?_); (repeat (with_reducible refine imp_i (fun _ => ?_)))) | ((try with_reducible refine appK_a ?_); first | (with_reducible refine appD_F (by refine ⟨?_, ?_, ?_, ?_⟩ <;> (first | assumption | omega | exact St.has_add (by assumption) | (simp only [ins_has]; exact St.has_add (by assumption)) | (simp only [ins_has, fresh_ins, kill_ins, add_ins] at *; exact St.has_add (by assumption)) | (simp only [*, ins_has, has_full, St.has_add]; done) | (simp [-List.map_take, -List.map_drop, or_imp, forall_and, Seg.a, Vec.a, Leg.a, num, okEl, cells_agg, cells_int, cells_sl, cells_bool, AV.isCell]; done) | (simp; omega))) (fun _ _ => ?_)) | (with_reducible refine appD_V (by refine ⟨?_, ?_, ?_, ?_, ?_⟩ <;> (first | assumption | omega | exact St.has_add (by assumption) | (simp only [ins_has]; exact St.has_add (by assumption)) | (simp only [ins_has, fresh_ins, kill_ins, add_ins] at *; exact St.has_add (by assumption)) | (simp only [*, ins_has, has_full, St.has_add]; done) | (simp [-List.map_take, -List.map_drop, or_imp, forall_and, Seg.a, Vec.a, Leg.a, num, okEl, cells_agg, cells_int, cells_sl, cells_bool, AV.isCell]; done) | (simp; omega))) (fun _ _ => ?_))) | (with_reducible refine freshQ_i (fun _ _ => ?_)) | (with_reducible refine nilQ_i (fun _ _ => ?_)) | (with_reducible first | refine callH_use (hAt) ?_ | refine pureQ_use (hAt) ?_)))
  rename_i b6 h6
  refine loopf_of (len := f.length) (by simp only [asgL, dsts, List.cons_append, List.nil_append, List.append_nil]; rfl) (by simp only [noR, Bool.and_true, Bool.and_false]; rfl) (by omega) (fun k fr s => ∃ (j : Nat) (p : Int) (u : Vec) (S : St), s = S.ins b6 (.cells [.int .i64 u.m, .int .i64 u.c])
    ∧ fr.t 17 = .int .i64 k ∧ fr.t 5 = .int .i64 p ∧ I j S ∧ S.objs b6 = none ∧ j ≤ L.length ∧ Hid (L.drop j = lowGo w v (f.drop k) p u)) ?_ ?_ ?_
  · exact ⟨0, w.m, u0, S0, rfl, by simp [↓vD, vU, VE.ev, VE.evs, retvs, tupOf, grab, vfill, vbsl, eqCells, eqCell, veqs, veqs1, vmnx, AV.isCell, AV.isUndef, Nat.reduceEqDiff, Nat.reduceAdd, Nat.reduceSub, Nat.reduceLeDiff, Nat.reduceLT, reduceIte, reduceCtorEq, Nat.reduceBEq, k_app, k_slc1], by simp [↓vD, vU, VE.ev, VE.evs, retvs, tupOf, grab, vfill, vbsl, eqCells, eqCell, veqs, veqs1, vmnx, AV.isCell, AV.isUndef, Nat.reduceEqDiff, Nat.reduceAdd, Nat.reduceSub, Nat.reduceLeDiff, Nat.reduceLT, reduceIte, reduceCtorEq, Nat.reduceBEq, k_app, k_slc1], h0, h6, by omega, ⟨by rw [HL.out]; rfl⟩⟩
  · rintro k fr s hk hwr hfr hd ⟨j, p, u, S, rfl, h17, h5, hI, hS6, hj, HK⟩
    obtain ⟨x, hx⟩ : ∃ x, f[k] = x := ⟨_, rfl⟩
    have hdr : f.drop k = x :: f.drop (k + 1) := by rw [List.drop_eq_getElem_cons hk, hx]
    have hK := HK.out
    rw [hdr, lowGo] at hK
    by_cases hskip : x.t ≤ w.m ∨ w.c ≤ x.t
    · have HN : Hid (L.drop j = lowGo w v (f.drop (k + 1)) p u) := ⟨by rw [hK, if_pos hskip]⟩
      clear hK hdr HK
      (repeat' (first | (simp (config := { maxDischargeDepth := 16 }) only [*, num, Vec.a, Seg.a, vX, Int.reduceLE, Int.reduceLT, Int.reduceGE, Int.reduceGT, Int.reduceBEq, Int.reduceBNe, Int.reduceAdd, Int.reduceSub, Int.reduceMul, Int.reduceNeg, ↓vD, vU, VE.ev, VE.evs, retvs, tupOf, grab, vfill, vbsl, eqCells, eqCell, veqs, veqs1, vmnx, AV.isCell, AV.isUndef, Nat.reduceEqDiff, Nat.reduceAdd, Nat.reduceSub, Nat.reduceLeDiff, Nat.reduceLT, reduceIte, reduceCtorEq, Nat.reduceBEq]) | (simp (disch := first | assumption | omega | exact Seg.len _ | exact Vec.len _ | exact Leg.len _ | exact num_len _ | exact rowA_len _ | exact rowA_len | exact rowT_len _ | exact rowT_len | exact Seg.len | exact Vec.len | exact Leg.len | exact num_len | exact AV.slen _ _ | rfl) only [num, Vec.a, Seg.a, vP]) | (with_reducible (first | refine gsnd (fun _ => ?_) (fun _ => ?_) | refine csnd (fun _ => ?_) (fun _ => ?_) | refine gsd (fun _ => ?_) (fun _ => ?_) | refine csd (fun _ => ?_) (fun _ => ?_) | refine gsn (fun _ => ?_) (fun _ => ?_) | refine csn (fun _ => ?_) (fun _ => ?_))) | (with_reducible refine gs (fun _ => ?_) (fun _ => ?_)) | (with_reducible refine cs_ (fun _ => ?_) (fun _ => ?_)) | (with_reducible refine objQ_i (fun _ _ => ?_); (repeat (with_reducible refine imp_i (fun _ => ?_)))) | ((try with_reducible refine appK_a ?_); first | (with_reducible refine appD_F (by refine ⟨?_, ?_, ?_, ?_⟩ <;> (first | assumption | omega | exact St.has_add (by assumption) | (simp only [ins_has]; exact St.has_add (by assumption)) | (simp only [ins_has, fresh_ins, kill_ins, add_ins] at *; exact St.has_add (by assumption)) | (simp only [*, ins_has, has_full, St.has_add]; done) | (simp [-List.map_take, -List.map_drop, or_imp, forall_and, Seg.a, Vec.a, Leg.a, num, okEl, cells_agg, cells_int, cells_sl, cells_bool, AV.isCell]; done) | (simp; omega))) (fun _ _ => ?_)) | (with_reducible refine appD_V (by refine ⟨?_, ?_, ?_, ?_, ?_⟩ <;> (first | assumption | omega | exact St.has_add (by assumption) | (simp only [ins_has]; exact St.has_add (by assumption)) | (simp only [ins_has, fresh_ins, kill_ins, add_ins] at *; exact St.has_add (by assumption)) | (simp only [*, ins_has, has_full, St.has_add]; done) | (simp [-List.map_take, -List.map_drop, or_imp, forall_and, Seg.a, Vec.a, Leg.a, num, okEl, cells_agg, cells_int, cells_sl, cells_bool, AV.isCell]; done) | (simp; omega))) (fun _ _ => ?_))) | (with_reducible refine freshQ_i (fun _ _ => ?_)) | (with_reducible refine nilQ_i (fun _ _ => ?_)) | (with_reducible first | refine callH_use (hLE _ _) ?_ | refine pureQ_use (hLE _ _) ?_)))
      all_goals first | exact ⟨_, by (refine ⟨fun i o e => ?_, fun _ h => h⟩; revert e; simp only [St.ins, St.del, add_objs, kill_objs]; (repeat' split); all_goals (first | exact id | (intros; contradiction) | (intros; subst_vars; contradiction) | (intros; simp_all; done) | (intros; subst_vars; simp_all; done))), j, p, u, S, rfl, rfl, hI, hS6, hj, HN⟩ | omega
    · rw [if_neg hskip] at hK
      cases hle : (decide (v.m ≤ u.m) && decide (v.c ≤ u.c)) with
      | true =>
        have HN : Hid (L.drop j = lowGo w v (f.drop (k + 1)) x.t x.v) := ⟨by rw [hK, if_pos (show leW v u = true from hle)]⟩
        clear hK hdr HK
        (repeat' (first | (simp (config := { maxDischargeDepth := 16 }) only [*, num, Vec.a, Seg.a, vX, Int.reduceLE, Int.reduceLT, Int.reduceGE, Int.reduceGT, Int.reduceBEq, Int.reduceBNe, Int.reduceAdd, Int.reduceSub, Int.reduceMul, Int.reduceNeg, ↓vD, vU, VE.ev, VE.evs, retvs, tupOf, grab, vfill, vbsl, eqCells, eqCell, veqs, veqs1, vmnx, AV.isCell, AV.isUndef, Nat.reduceEqDiff, Nat.reduceAdd, Nat.reduceSub, Nat.reduceLeDiff, Nat.reduceLT, reduceIte, reduceCtorEq, Nat.reduceBEq]) | (simp (disch := first | assumption | omega | exact Seg.len _ | exact Vec.len _ | exact Leg.len _ | exact num_len _ | exact rowA_len _ | exact rowA_len | exact rowT_len _ | exact rowT_len | exact Seg.len | exact Vec.len | exact Leg.len | exact num_len | exact AV.slen _ _ | rfl) only [num, Vec.a, Seg.a, vP]) | (with_reducible (first | refine gsnd (fun _ => ?_) (fun _ => ?_) | refine csnd (fun _ => ?_) (fun _ => ?_) | refine gsd (fun _ => ?_) (fun _ => ?_) | refine csd (fun _ => ?_) (fun _ => ?_) | refine gsn (fun _ => ?_) (fun _ => ?_) | refine csn (fun _ => ?_) (fun _ => ?_))) | (with_reducible refine gs (fun _ => ?_) (fun _ => ?_)) | (with_reducible refine cs_ (fun _ => ?_) (fun _ => ?_)) | (with_reducible refine objQ_i (fun _ _ => ?_); (repeat (with_reducible refine imp_i (fun _ => ?_)))) | ((try with_reducible refine appK_a ?_); first | (with_reducible refine appD_F (by refine ⟨?_, ?_, ?_, ?_⟩ <;> (first | assumption | omega | exact St.has_add (by assumption) | (simp only [ins_has]; exact St.has_add (by assumption)) | (simp only [ins_has, fresh_ins, kill_ins, add_ins] at *; exact St.has_add (by assumption)) | (simp only [*, ins_has, has_full, St.has_add]; done) | (simp [-List.map_take, -List.map_drop, or_imp, forall_and, Seg.a, Vec.a, Leg.a, num, okEl, cells_agg, cells_int, cells_sl, cells_bool, AV.isCell]; done) | (simp; omega))) (fun _ _ => ?_)) | (with_reducible refine appD_V (by refine ⟨?_, ?_, ?_, ?_, ?_⟩ <;> (first | assumption | omega | exact St.has_add (by assumption) | (simp only [ins_has]; exact St.has_add (by assumption)) | (simp only [ins_has, fresh_ins, kill_ins, add_ins] at *; exact St.has_add (by assumption)) | (simp only [*, ins_has, has_full, St.has_add]; done) | (simp [-List.map_take, -List.map_drop, or_imp, forall_and, Seg.a, Vec.a, Leg.a, num, okEl, cells_agg, cells_int, cells_sl, cells_bool, AV.isCell]; done) | (simp; omega))) (fun _ _ => ?_))) | (with_reducible refine freshQ_i (fun _ _ => ?_)) | (with_reducible refine nilQ_i (fun _ _ => ?_)) | (with_reducible first | refine callH_use (hLE _ _) ?_ | refine pureQ_use (hLE _ _) ?_)))
        exact ⟨_, by (refine ⟨fun i o e => ?_, fun _ h => h⟩; revert e; simp only [St.ins, St.del, add_objs, kill_objs]; (repeat' split); all_goals (first | exact id | (intros; contradiction) | (intros; subst_vars; contradiction) | (intros; simp_all; done) | (intros; subst_vars; simp_all; done))), j, x.t, x.v, S, rfl, rfl, hI, hS6, hj, HN⟩
      | false =>
        have HN : Hid (L.drop j = ⟨p, x.t⟩ :: lowGo w v (f.drop (k + 1)) x.t x.v) := ⟨by rw [hK, if_neg (by unfold leW; rw [hle]; simp)]⟩
        clear hK hdr HK
        (repeat' (first | (simp (config := { maxDischargeDepth := 16 }) only [*, num, Vec.a, Seg.a, vX, Int.reduceLE, Int.reduceLT, Int.reduceGE, Int.reduceGT, Int.reduceBEq, Int.reduceBNe, Int.reduceAdd, Int.reduceSub, Int.reduceMul, Int.reduceNeg, ↓vD, vU, VE.ev, VE.evs, retvs, tupOf, grab, vfill, vbsl, eqCells, eqCell, veqs, veqs1, vmnx, AV.isCell, AV.isUndef, Nat.reduceEqDiff, Nat.reduceAdd, Nat.reduceSub, Nat.reduceLeDiff, Nat.reduceLT, reduceIte, reduceCtorEq, Nat.reduceBEq]) | (simp (disch := first | assumption | omega | exact Seg.len _ | exact Vec.len _ | exact Leg.len _ | exact num_len _ | exact rowA_len _ | exact rowA_len | exact rowT_len _ | exact rowT_len | exact Seg.len | exact Vec.len | exact Leg.len | exact num_len | exact AV.slen _ _ | rfl) only [num, Vec.a, Seg.a, vP]) | (with_reducible (first | refine gsnd (fun _ => ?_) (fun _ => ?_) | refine csnd (fun _ => ?_) (fun _ => ?_) | refine gsd (fun _ => ?_) (fun _ => ?_) | refine csd (fun _ => ?_) (fun _ => ?_) | refine gsn (fun _ => ?_) (fun _ => ?_) | refine csn (fun _ => ?_) (fun _ => ?_))) | (with_reducible refine gs (fun _ => ?_) (fun _ => ?_)) | (with_reducible refine cs_ (fun _ => ?_) (fun _ => ?_)) | (with_reducible refine objQ_i (fun _ _ => ?_); (repeat (with_reducible refine imp_i (fun _ => ?_)))) | ((try with_reducible refine appK_a ?_); first | (with_reducible refine appD_F (by refine ⟨?_, ?_, ?_, ?_⟩ <;> (first | assumption | omega | exact St.has_add (by assumption) | (simp only [ins_has]; exact St.has_add (by assumption)) | (simp only [ins_has, fresh_ins, kill_ins, add_ins] at *; exact St.has_add (by assumption)) | (simp only [*, ins_has, has_full, St.has_add]; done) | (simp [-List.map_take, -List.map_drop, or_imp, forall_and, Seg.a, Vec.a, Leg.a, num, okEl, cells_agg, cells_int, cells_sl, cells_bool, AV.isCell]; done) | (simp; omega))) (fun _ _ => ?_)) | (with_reducible refine appD_V (by refine ⟨?_, ?_, ?_, ?_, ?_⟩ <;> (first | assumption | omega | exact St.has_add (by assumption) | (simp only [ins_has]; exact St.has_add (by assumption)) | (simp only [ins_has, fresh_ins, kill_ins, add_ins] at *; exact St.has_add (by assumption)) | (simp only [*, ins_has, has_full, St.has_add]; done) | (simp [-List.map_take, -List.map_drop, or_imp, forall_and, Seg.a, Vec.a, Leg.a, num, okEl, cells_agg, cells_int, cells_sl, cells_bool, AV.isCell]; done) | (simp; omega))) (fun _ _ => ?_))) | (with_reducible refine freshQ_i (fun _ _ => ?_)) | (with_reducible refine nilQ_i (fun _ _ => ?_)) | (with_reducible first | refine callH_use (hLE _ _) ?_ | refine pureQ_use (hLE _ _) ?_)))
        rename_i b8 h8 n86 n68
        refine yieldH_then (((HY.out j _ _ HN.out S hI).frame b6 _ hS6).frame b8 _ (by simp only [ins_objs, *, if_false])) rfl ?_
        rintro _ _ ⟨_, ⟨s0, hyy, q6, rfl⟩, q8, rfl⟩
        obtain ⟨hj2, _, hd2⟩ := drop_cons HN.out
        have q8' : s0.objs b8 = none := by simpa only [ins_objs, n86, if_false] using q8
        rcases hyy with ⟨rfl, S', hI', hle'⟩ | ⟨rfl, S', hE', hle'⟩
        · have HN2 : Hid (L.drop (j + 1) = lowGo w v (f.drop (k + 1)) x.t x.v) := ⟨hd2⟩
          clear HN hd2
          (repeat' (first | (simp (config := { maxDischargeDepth := 16 }) only [*, num, Vec.a, Seg.a, vX, Int.reduceLE, Int.reduceLT, Int.reduceGE, Int.reduceGT, Int.reduceBEq, Int.reduceBNe, Int.reduceAdd, Int.reduceSub, Int.reduceMul, Int.reduceNeg, ↓vD, vU, VE.ev, VE.evs, retvs, tupOf, grab, vfill, vbsl, eqCells, eqCell, veqs, veqs1, vmnx, AV.isCell, AV.isUndef, Nat.reduceEqDiff, Nat.reduceAdd, Nat.reduceSub, Nat.reduceLeDiff, Nat.reduceLT, reduceIte, reduceCtorEq, Nat.reduceBEq]) | (simp (disch := first | assumption | omega | exact Seg.len _ | exact Vec.len _ | exact Leg.len _ | exact num_len _ | exact rowA_len _ | exact rowA_len | exact rowT_len _ | exact rowT_len | exact Seg.len | exact Vec.len | exact Leg.len | exact num_len | exact AV.slen _ _ | rfl) only [num, Vec.a, Seg.a, vP]) | (with_reducible (first | refine gsnd (fun _ => ?_) (fun _ => ?_) | refine csnd (fun _ => ?_) (fun _ => ?_) | refine gsd (fun _ => ?_) (fun _ => ?_) | refine csd (fun _ => ?_) (fun _ => ?_) | refine gsn (fun _ => ?_) (fun _ => ?_) | refine csn (fun _ => ?_) (fun _ => ?_))) | (with_reducible refine gs (fun _ => ?_) (fun _ => ?_)) | (with_reducible refine cs_ (fun _ => ?_) (fun _ => ?_)) | (with_reducible refine objQ_i (fun _ _ => ?_); (repeat (with_reducible refine imp_i (fun _ => ?_)))) | ((try with_reducible refine appK_a ?_); first | (with_reducible refine appD_F (by refine ⟨?_, ?_, ?_, ?_⟩ <;> (first | assumption | omega | exact St.has_add (by assumption) | (simp only [ins_has]; exact St.has_add (by assumption)) | (simp only [ins_has, fresh_ins, kill_ins, add_ins] at *; exact St.has_add (by assumption)) | (simp only [*, ins_has, has_full, St.has_add]; done) | (simp [-List.map_take, -List.map_drop, or_imp, forall_and, Seg.a, Vec.a, Leg.a, num, okEl, cells_agg, cells_int, cells_sl, cells_bool, AV.isCell]; done) | (simp; omega))) (fun _ _ => ?_)) | (with_reducible refine appD_V (by refine ⟨?_, ?_, ?_, ?_, ?_⟩ <;> (first | assumption | omega | exact St.has_add (by assumption) | (simp only [ins_has]; exact St.has_add (by assumption)) | (simp only [ins_has, fresh_ins, kill_ins, add_ins] at *; exact St.has_add (by assumption)) | (simp only [*, ins_has, has_full, St.has_add]; done) | (simp [-List.map_take, -List.map_drop, or_imp, forall_and, Seg.a, Vec.a, Leg.a, num, okEl, cells_agg, cells_int, cells_sl, cells_bool, AV.isCell]; done) | (simp; omega))) (fun _ _ => ?_))) | (with_reducible refine freshQ_i (fun _ _ => ?_)) | (with_reducible refine nilQ_i (fun _ _ => ?_)) | (with_reducible first | refine callH_use (hLE _ _) ?_ | refine pureQ_use (hLE _ _) ?_)))
          exact ⟨_, (St.le.ins hle' b6 _).trans (by (refine ⟨fun i o e => ?_, fun _ h => h⟩; revert e; simp only [St.ins, St.del, add_objs, kill_objs]; (repeat' split); all_goals (first | exact id | (intros; contradiction) | (intros; subst_vars; contradiction) | (intros; simp_all; done) | (intros; subst_vars; simp_all; done)))), j + 1, x.t, x.v, S', rfl, rfl, hI', hle'.none q6, by omega, HN2⟩
        · (repeat' (first | (simp (config := { maxDischargeDepth := 16 }) only [*, num, Vec.a, Seg.a, vX, Int.reduceLE, Int.reduceLT, Int.reduceGE, Int.reduceGT, Int.reduceBEq, Int.reduceBNe, Int.reduceAdd, Int.reduceSub, Int.reduceMul, Int.reduceNeg, ↓vD, vU, VE.ev, VE.evs, retvs, tupOf, grab, vfill, vbsl, eqCells, eqCell, veqs, veqs1, vmnx, AV.isCell, AV.isUndef, Nat.reduceEqDiff, Nat.reduceAdd, Nat.reduceSub, Nat.reduceLeDiff, Nat.reduceLT, reduceIte, reduceCtorEq, Nat.reduceBEq]) | (simp (disch := first | assumption | omega | exact Seg.len _ | exact Vec.len _ | exact Leg.len _ | exact num_len _ | exact rowA_len _ | exact rowA_len | exact rowT_len _ | exact rowT_len | exact Seg.len | exact Vec.len | exact Leg.len | exact num_len | exact AV.slen _ _ | rfl) only [num, Vec.a, Seg.a, vP]) | (with_reducible (first | refine gsnd (fun _ => ?_) (fun _ => ?_) | refine csnd (fun _ => ?_) (fun _ => ?_) | refine gsd (fun _ => ?_) (fun _ => ?_) | refine csd (fun _ => ?_) (fun _ => ?_) | refine gsn (fun _ => ?_) (fun _ => ?_) | refine csn (fun _ => ?_) (fun _ => ?_))) | (with_reducible refine gs (fun _ => ?_) (fun _ => ?_)) | (with_reducible refine cs_ (fun _ => ?_) (fun _ => ?_)) | (with_reducible refine objQ_i (fun _ _ => ?_); (repeat (with_reducible refine imp_i (fun _ => ?_)))) | ((try with_reducible refine appK_a ?_); first | (with_reducible refine appD_F (by refine ⟨?_, ?_, ?_, ?_⟩ <;> (first | assumption | omega | exact St.has_add (by assumption) | (simp only [ins_has]; exact St.has_add (by assumption)) | (simp only [ins_has, fresh_ins, kill_ins, add_ins] at *; exact St.has_add (by assumption)) | (simp only [*, ins_has, has_full, St.has_add]; done) | (simp [-List.map_take, -List.map_drop, or_imp, forall_and, Seg.a, Vec.a, Leg.a, num, okEl, cells_agg, cells_int, cells_sl, cells_bool, AV.isCell]; done) | (simp; omega))) (fun _ _ => ?_)) | (with_reducible refine appD_V (by refine ⟨?_, ?_, ?_, ?_, ?_⟩ <;> (first | assumption | omega | exact St.has_add (by assumption) | (simp only [ins_has]; exact St.has_add (by assumption)) | (simp only [ins_has, fresh_ins, kill_ins, add_ins] at *; exact St.has_add (by assumption)) | (simp only [*, ins_has, has_full, St.has_add]; done) | (simp [-List.map_take, -List.map_drop, or_imp, forall_and, Seg.a, Vec.a, Leg.a, num, okEl, cells_agg, cells_int, cells_sl, cells_bool, AV.isCell]; done) | (simp; omega))) (fun _ _ => ?_))) | (with_reducible refine freshQ_i (fun _ _ => ?_)) | (with_reducible refine nilQ_i (fun _ _ => ?_)) | (with_reducible first | refine callH_use (hLE _ _) ?_ | refine pureQ_use (hLE _ _) ?_)))
          exact ⟨_, St.le.refl _, S', .inr hE', hle'.trans (by (refine ⟨fun i o e => ?_, fun _ h => h⟩; revert e; simp only [St.ins, St.del, add_objs, kill_objs]; (repeat' split); all_goals (first | exact id | (intros; contradiction) | (intros; subst_vars; contradiction) | (intros; simp_all; done) | (intros; subst_vars; simp_all; done))))⟩
  · rintro fr s hfr hd ⟨j, p, u, S, rfl, h17, h5, hI, hS6, hj, HK⟩
    rw [List.drop_length, lowGo] at HK
    cases hle : (decide (v.m ≤ u.m) && decide (v.c ≤ u.c)) with
    | true =>
      have HN : Hid (L.drop j = []) := ⟨by rw [HK.out, if_pos (show leW v u = true from hle)]⟩
      have hjl : j = L.length := by have := List.drop_eq_nil_iff.1 HN.out; omega
      subst hjl
      clear HK HN
      (repeat' (first | (simp (config := { maxDischargeDepth := 16 }) only [*, num, Vec.a, Seg.a, vX, Int.reduceLE, Int.reduceLT, Int.reduceGE, Int.reduceGT, Int.reduceBEq, Int.reduceBNe, Int.reduceAdd, Int.reduceSub, Int.reduceMul, Int.reduceNeg, ↓vD, vU, VE.ev, VE.evs, retvs, tupOf, grab, vfill, vbsl, eqCells, eqCell, veqs, veqs1, vmnx, AV.isCell, AV.isUndef, Nat.reduceEqDiff, Nat.reduceAdd, Nat.reduceSub, Nat.reduceLeDiff, Nat.reduceLT, reduceIte, reduceCtorEq, Nat.reduceBEq]) | (simp (disch := first | assumption | omega | exact Seg.len _ | exact Vec.len _ | exact Leg.len _ | exact num_len _ | exact rowA_len _ | exact rowA_len | exact rowT_len _ | exact rowT_len | exact Seg.len | exact Vec.len | exact Leg.len | exact num_len | exact AV.slen _ _ | rfl) only [num, Vec.a, Seg.a, vP]) | (with_reducible (first | refine gsnd (fun _ => ?_) (fun _ => ?_) | refine csnd (fun _ => ?_) (fun _ => ?_) | refine gsd (fun _ => ?_) (fun _ => ?_) | refine csd (fun _ => ?_) (fun _ => ?_) | refine gsn (fun _ => ?_) (fun _ => ?_) | refine csn (fun _ => ?_) (fun _ => ?_))) | (with_reducible refine gs (fun _ => ?_) (fun _ => ?_)) | (with_reducible refine cs_ (fun _ => ?_) (fun _ => ?_)) | (with_reducible refine objQ_i (fun _ _ => ?_); (repeat (with_reducible refine imp_i (fun _ => ?_)))) | ((try with_reducible refine appK_a ?_); first | (with_reducible refine appD_F (by refine ⟨?_, ?_, ?_, ?_⟩ <;> (first | assumption | omega | exact St.has_add (by assumption) | (simp only [ins_has]; exact St.has_add (by assumption)) | (simp only [ins_has, fresh_ins, kill_ins, add_ins] at *; exact St.has_add (by assumption)) | (simp only [*, ins_has, has_full, St.has_add]; done) | (simp [-List.map_take, -List.map_drop, or_imp, forall_and, Seg.a, Vec.a, Leg.a, num, okEl, cells_agg, cells_int, cells_sl, cells_bool, AV.isCell]; done) | (simp; omega))) (fun _ _ => ?_)) | (with_reducible refine appD_V (by refine ⟨?_, ?_, ?_, ?_, ?_⟩ <;> (first | assumption | omega | exact St.has_add (by assumption) | (simp only [ins_has]; exact St.has_add (by assumption)) | (simp only [ins_has, fresh_ins, kill_ins, add_ins] at *; exact St.has_add (by assumption)) | (simp only [*, ins_has, has_full, St.has_add]; done) | (simp [-List.map_take, -List.map_drop, or_imp, forall_and, Seg.a, Vec.a, Leg.a, num, okEl, cells_agg, cells_int, cells_sl, cells_bool, AV.isCell]; done) | (simp; omega))) (fun _ _ => ?_))) | (with_reducible refine freshQ_i (fun _ _ => ?_)) | (with_reducible refine nilQ_i (fun _ _ => ?_)) | (with_reducible first | refine callH_use (hLE _ _) ?_ | refine pureQ_use (hLE _ _) ?_)))
      exact ⟨_, St.le.refl _, S, .inl hI, by (refine ⟨fun i o e => ?_, fun _ h => h⟩; revert e; simp only [St.ins, St.del, add_objs, kill_objs]; (repeat' split); all_goals (first | exact id | (intros; contradiction) | (intros; subst_vars; contradiction) | (intros; simp_all; done) | (intros; subst_vars; simp_all; done)))⟩
    | false =>
      have HN : Hid (L.drop j = [⟨p, w.c⟩]) := ⟨by rw [HK.out, if_neg (by unfold leW; rw [hle]; simp)]⟩
      clear HK
      (repeat' (first | (simp (config := { maxDischargeDepth := 16 }) only [*, num, Vec.a, Seg.a, vX, Int.reduceLE, Int.reduceLT, Int.reduceGE, Int.reduceGT, Int.reduceBEq, Int.reduceBNe, Int.reduceAdd, Int.reduceSub, Int.reduceMul, Int.reduceNeg, ↓vD, vU, VE.ev, VE.evs, retvs, tupOf, grab, vfill, vbsl, eqCells, eqCell, veqs, veqs1, vmnx, AV.isCell, AV.isUndef, Nat.reduceEqDiff, Nat.reduceAdd, Nat.reduceSub, Nat.reduceLeDiff, Nat.reduceLT, reduceIte, reduceCtorEq, Nat.reduceBEq]) | (simp (disch := first | assumption | omega | exact Seg.len _ | exact Vec.len _ | exact Leg.len _ | exact num_len _ | exact rowA_len _ | exact rowA_len | exact rowT_len _ | exact rowT_len | exact Seg.len | exact Vec.len | exact Leg.len | exact num_len | exact AV.slen _ _ | rfl) only [num, Vec.a, Seg.a, vP]) | (with_reducible (first | refine gsnd (fun _ => ?_) (fun _ => ?_) | refine csnd (fun _ => ?_) (fun _ => ?_) | refine gsd (fun _ => ?_) (fun _ => ?_) | refine csd (fun _ => ?_) (fun _ => ?_) | refine gsn (fun _ => ?_) (fun _ => ?_) | refine csn (fun _ => ?_) (fun _ => ?_))) | (with_reducible refine gs (fun _ => ?_) (fun _ => ?_)) | (with_reducible refine cs_ (fun _ => ?_) (fun _ => ?_)) | (with_reducible refine objQ_i (fun _ _ => ?_); (repeat (with_reducible refine imp_i (fun _ => ?_)))) | ((try with_reducible refine appK_a ?_); first | (with_reducible refine appD_F (by refine ⟨?_, ?_, ?_, ?_⟩ <;> (first | assumption | omega | exact St.has_add (by assumption) | (simp only [ins_has]; exact St.has_add (by assumption)) | (simp only [ins_has, fresh_ins, kill_ins, add_ins] at *; exact St.has_add (by assumption)) | (simp only [*, ins_has, has_full, St.has_add]; done) | (simp [-List.map_take, -List.map_drop, or_imp, forall_and, Seg.a, Vec.a, Leg.a, num, okEl, cells_agg, cells_int, cells_sl, cells_bool, AV.isCell]; done) | (simp; omega))) (fun _ _ => ?_)) | (with_reducible refine appD_V (by refine ⟨?_, ?_, ?_, ?_, ?_⟩ <;> (first | assumption | omega | exact St.has_add (by assumption) | (simp only [ins_has]; exact St.has_add (by assumption)) | (simp only [ins_has, fresh_ins, kill_ins, add_ins] at *; exact St.has_add (by assumption)) | (simp only [*, ins_has, has_full, St.has_add]; done) | (simp [-List.map_take, -List.map_drop, or_imp, forall_and, Seg.a, Vec.a, Leg.a, num, okEl, cells_agg, cells_int, cells_sl, cells_bool, AV.isCell]; done) | (simp; omega))) (fun _ _ => ?_))) | (with_reducible refine freshQ_i (fun _ _ => ?_)) | (with_reducible refine nilQ_i (fun _ _ => ?_)) | (with_reducible first | refine callH_use (hLE _ _) ?_ | refine pureQ_use (hLE _ _) ?_)))
      refine yieldH_then ((HY.out j _ _ HN.out S hI).frame b6 _ hS6) rfl ?_
      rintro _ _ ⟨s0, hyy, q6, rfl⟩
      obtain ⟨hj2, _, hd2⟩ := drop_cons HN.out
      have hjl : j + 1 = L.length := by have := List.drop_eq_nil_iff.1 hd2; omega
      rcases hyy with ⟨rfl, S', hI', hle'⟩ | ⟨rfl, S', hE', hle'⟩
      · rw [hjl] at hI'
        (repeat' (first | (simp (config := { maxDischargeDepth := 16 }) only [*, num, Vec.a, Seg.a, vX, Int.reduceLE, Int.reduceLT, Int.reduceGE, Int.reduceGT, Int.reduceBEq, Int.reduceBNe, Int.reduceAdd, Int.reduceSub, Int.reduceMul, Int.reduceNeg, ↓vD, vU, VE.ev, VE.evs, retvs, tupOf, grab, vfill, vbsl, eqCells, eqCell, veqs, veqs1, vmnx, AV.isCell, AV.isUndef, Nat.reduceEqDiff, Nat.reduceAdd, Nat.reduceSub, Nat.reduceLeDiff, Nat.reduceLT, reduceIte, reduceCtorEq, Nat.reduceBEq]) | (simp (disch := first | assumption | omega | exact Seg.len _ | exact Vec.len _ | exact Leg.len _ | exact num_len _ | exact rowA_len _ | exact rowA_len | exact rowT_len _ | exact rowT_len | exact Seg.len | exact Vec.len | exact Leg.len | exact num_len | exact AV.slen _ _ | rfl) only [num, Vec.a, Seg.a, vP]) | (with_reducible (first | refine gsnd (fun _ => ?_) (fun _ => ?_) | refine csnd (fun _ => ?_) (fun _ => ?_) | refine gsd (fun _ => ?_) (fun _ => ?_) | refine csd (fun _ => ?_) (fun _ => ?_) | refine gsn (fun _ => ?_) (fun _ => ?_) | refine csn (fun _ => ?_) (fun _ => ?_))) | (with_reducible refine gs (fun _ => ?_) (fun _ => ?_)) | (with_reducible refine cs_ (fun _ => ?_) (fun _ => ?_)) | (with_reducible refine objQ_i (fun _ _ => ?_); (repeat (with_reducible refine imp_i (fun _ => ?_)))) | ((try with_reducible refine appK_a ?_); first | (with_reducible refine appD_F (by refine ⟨?_, ?_, ?_, ?_⟩ <;> (first | assumption | omega | exact St.has_add (by assumption) | (simp only [ins_has]; exact St.has_add (by assumption)) | (simp only [ins_has, fresh_ins, kill_ins, add_ins] at *; exact St.has_add (by assumption)) | (simp only [*, ins_has, has_full, St.has_add]; done) | (simp [-List.map_take, -List.map_drop, or_imp, forall_and, Seg.a, Vec.a, Leg.a, num, okEl, cells_agg, cells_int, cells_sl, cells_bool, AV.isCell]; done) | (simp; omega))) (fun _ _ => ?_)) | (with_reducible refine appD_V (by refine ⟨?_, ?_, ?_, ?_, ?_⟩ <;> (first | assumption | omega | exact St.has_add (by assumption) | (simp only [ins_has]; exact St.has_add (by assumption)) | (simp only [ins_has, fresh_ins, kill_ins, add_ins] at *; exact St.has_add (by assumption)) | (simp only [*, ins_has, has_full, St.has_add]; done) | (simp [-List.map_take, -List.map_drop, or_imp, forall_and, Seg.a, Vec.a, Leg.a, num, okEl, cells_agg, cells_int, cells_sl, cells_bool, AV.isCell]; done) | (simp; omega))) (fun _ _ => ?_))) | (with_reducible refine freshQ_i (fun _ _ => ?_)) | (with_reducible refine nilQ_i (fun _ _ => ?_)) | (with_reducible first | refine callH_use (hLE _ _) ?_ | refine pureQ_use (hLE _ _) ?_)))
        exact ⟨_, St.le.refl _, S', .inl hI', hle'.trans (by (refine ⟨fun i o e => ?_, fun _ h => h⟩; revert e; simp only [St.ins, St.del, add_objs, kill_objs]; (repeat' split); all_goals (first | exact id | (intros; contradiction) | (intros; subst_vars; contradiction) | (intros; simp_all; done) | (intros; subst_vars; simp_all; done))))⟩
      · (repeat' (first | (simp (config := { maxDischargeDepth := 16 }) only [*, num, Vec.a, Seg.a, vX, Int.reduceLE, Int.reduceLT, Int.reduceGE, Int.reduceGT, Int.reduceBEq, Int.reduceBNe, Int.reduceAdd, Int.reduceSub, Int.reduceMul, Int.reduceNeg, ↓vD, vU, VE.ev, VE.evs, retvs, tupOf, grab, vfill, vbsl, eqCells, eqCell, veqs, veqs1, vmnx, AV.isCell, AV.isUndef, Nat.reduceEqDiff, Nat.reduceAdd, Nat.reduceSub, Nat.reduceLeDiff, Nat.reduceLT, reduceIte, reduceCtorEq, Nat.reduceBEq]) | (simp (disch := first | assumption | omega | exact Seg.len _ | exact Vec.len _ | exact Leg.len _ | exact num_len _ | exact rowA_len _ | exact rowA_len | exact rowT_len _ | exact rowT_len | exact Seg.len | exact Vec.len | exact Leg.len | exact num_len | exact AV.slen _ _ | rfl) only [num, Vec.a, Seg.a, vP]) | (with_reducible (first | refine gsnd (fun _ => ?_) (fun _ => ?_) | refine csnd (fun _ => ?_) (fun _ => ?_) | refine gsd (fun _ => ?_) (fun _ => ?_) | refine csd (fun _ => ?_) (fun _ => ?_) | refine gsn (fun _ => ?_) (fun _ => ?_) | refine csn (fun _ => ?_) (fun _ => ?_))) | (with_reducible refine gs (fun _ => ?_) (fun _ => ?_)) | (with_reducible refine cs_ (fun _ => ?_) (fun _ => ?_)) | (with_reducible refine objQ_i (fun _ _ => ?_); (repeat (with_reducible refine imp_i (fun _ => ?_)))) | ((try with_reducible refine appK_a ?_); first | (with_reducible refine appD_F (by refine ⟨?_, ?_, ?_, ?_⟩ <;> (first | assumption | omega | exact St.has_add (by assumption) | (simp only [ins_has]; exact St.has_add (by assumption)) | (simp only [ins_has, fresh_ins, kill_ins, add_ins] at *; exact St.has_add (by assumption)) | (simp only [*, ins_has, has_full, St.has_add]; done) | (simp [-List.map_take, -List.map_drop, or_imp, forall_and, Seg.a, Vec.a, Leg.a, num, okEl, cells_agg, cells_int, cells_sl, cells_bool, AV.isCell]; done) | (simp; omega))) (fun _ _ => ?_)) | (with_reducible refine appD_V (by refine ⟨?_, ?_, ?_, ?_, ?_⟩ <;> (first | assumption | omega | exact St.has_add (by assumption) | (simp only [ins_has]; exact St.has_add (by assumption)) | (simp only [ins_has, fresh_ins, kill_ins, add_ins] at *; exact St.has_add (by assumption)) | (simp only [*, ins_has, has_full, St.has_add]; done) | (simp [-List.map_take, -List.map_drop, or_imp, forall_and, Seg.a, Vec.a, Leg.a, num, okEl, cells_agg, cells_int, cells_sl, cells_bool, AV.isCell]; done) | (simp; omega))) (fun _ _ => ?_))) | (with_reducible refine freshQ_i (fun _ _ => ?_)) | (with_reducible refine nilQ_i (fun _ _ => ?_)) | (with_reducible first | refine callH_use (hLE _ _) ?_ | refine pureQ_use (hLE _ _) ?_)))
        exact ⟨_, St.le.refl _, S', .inr hE', hle'.trans (by (refine ⟨fun i o e => ?_, fun _ h => h⟩; revert e; simp only [St.ins, St.del, add_objs, kill_objs]; (repeat' split); all_goals (first | exact id | (intros; contradiction) | (intros; subst_vars; contradiction) | (intros; simp_all; done) | (intros; subst_vars; simp_all; done))))⟩
end Go.Proofs.Ytddbnncimggogaa.V
end
