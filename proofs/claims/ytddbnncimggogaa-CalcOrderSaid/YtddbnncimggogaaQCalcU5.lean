/- Texts of this claim, joined: Ccalc5, Pcalc, Pcalc2, Pcalc3, VXliverylaw03, Chead03, Pcalc4, Cback, Corder, Pcalc5, VRow2, Crange. -/
import Derived.Test.YtddbnncimggogaaQCalcU4
import Derived.Test.YtddbnncimggogaaQCalcU2
import Derived.Test.YtddbnncimggogaaProg
section
set_option linter.unusedSimpArgs false
set_option linter.unusedVariables false
/- calc.LE. -/
namespace Go.Proofs.Ytddbnncimggogaa.V
open Go Go.Proofs
set_option maxRecDepth 100000
set_option maxHeartbeats 4000000
def hitI (a : Int) (it : Int × Vec × Vec) : Bool := decide (a ≤ it.1) && !leV it.2.1 it.2.2
def leFindI (L : List (Int × Vec × Vec)) (p : Int × Vec × Vec → Bool) : Int × Bool × Int := match L.find? p with | some it => (it.1, false, 0) | none => (0, true, 0)
def leC (f g : List Seg) (a : Int) : Int × Bool × Int := if mayF f && mayF g then (if leV (atF f a) (atF g a) then leFindI (bothF f g v0 v0) (hitI a) else (a, false, 0)) else (0, false, 5)
theorem LE_c (f g : List Seg) (hf : f.length ≤ 1000000) (hg : g.length ≤ 1000000) (t t' : Tok) (a : Int) : VPure Try.prog 37 [.sl (f.map Seg.a) t, .sl (g.map Seg.a) t', .int .i64 a] (.tup [num (leC f g a).1, .bool (leC f g a).2.1, num (leC f g a).2.2]) := by
  refine VPure.of v_calc_LE_ok (Nat.le_of_ble_eq_true rfl) (fun Z st => ?_)
  have hmay := may2_c f g hf hg .full t t'
  have hA := At_v f (by omega) t a
  have hB := At_v g (by omega) t' a
  unfold num at hA hB
  obtain ⟨L, hL⟩ : ∃ L, bothF f g v0 v0 = L := ⟨_, rfl⟩
  have HM : Hid (leC f g a = if mayF f && mayF g then (if leV (atF f a) (atF g a) then leFindI L (hitI a) else (a, false, 0)) else (0, false, 5)) := ⟨by unfold leC; rw [hL]⟩
  have HL := Hid.mk hL
  clear hL
  simp only [v_calc_LE, ↓vD, vU, VE.ev, VE.evs, retvs, tupOf, grab, vfill, vbsl, eqCells, eqCell, veqs, veqs1, vmnx, AV.isCell, AV.isUndef, Nat.reduceEqDiff, Nat.reduceAdd, Nat.reduceSub, Nat.reduceLeDiff, Nat.reduceLT, reduceIte, reduceCtorEq, Nat.reduceBEq, k_app, k_slc1]
  (repeat' (first | (simp (config := { maxDischargeDepth := 16 }) only [*, num, vX, Int.reduceLE, Int.reduceLT, Int.reduceGE, Int.reduceGT, Int.reduceBEq, Int.reduceBNe, Int.reduceAdd, Int.reduceSub, Int.reduceMul, Int.reduceNeg, ↓vD, vU, VE.ev, VE.evs, retvs, tupOf, grab, vfill, vbsl, eqCells, eqCell, veqs, veqs1, vmnx, AV.isCell, AV.isUndef, Nat.reduceEqDiff, Nat.reduceAdd, Nat.reduceSub, Nat.reduceLeDiff, Nat.reduceLT, reduceIte, reduceCtorEq, Nat.reduceBEq]) | (simp (disch := first | assumption | omega | exact Seg.len _ | exact Vec.len _ | exact Leg.len _ | exact num_len _ | exact rowA_len _ | exact rowA_len | exact rowT_len _ | exact rowT_len | exact Seg.len | exact Vec.len | exact Leg.len | exact num_len | exact AV.slen _ _ | rfl) only [num, vP]) | (with_reducible (first | refine gsnd (fun _ => ?_) (fun _ => ?_) | refine csnd (fun _ => ?_) (fun _ => ?_) | refine gsd (fun _ => ?_) (fun _ => ?_) | refine csd (fun _ => ?_) (fun _ => ?_) | refine gsn (fun _ => ?_) (fun _ => ?_) | refine csn (fun _ => ?_) (fun _ => ?_))) | (with_reducible refine gs (fun _ => ?_) (fun _ => ?_)) | (with_reducible refine cs_ (fun _ => ?_) (fun _ => ?_)) | (with_reducible refine objQ_i (fun _ _ => ?_); (repeat (with_reducible refine imp_i (fun _ => ?_)))) | ((try with_reducible refine appK_a ?_); first | (with_reducible refine appD_F (by refine ⟨?_, ?_, ?_, ?_⟩ <;> (first | assumption | omega | exact St.has_add (by assumption) | (simp only [ins_has]; exact St.has_add (by assumption)) | (simp only [ins_has, fresh_ins, kill_ins, add_ins] at *; exact St.has_add (by assumption)) | (simp only [*, ins_has, has_full, St.has_add]; done) | (simp [-List.map_take, -List.map_drop, or_imp, forall_and, Seg.a, Vec.a, Leg.a, num, okEl, cells_agg, cells_int, cells_sl, cells_bool, AV.isCell]; done) | (simp; omega))) (fun _ _ => ?_)) | (with_reducible refine appD_V (by refine ⟨?_, ?_, ?_, ?_, ?_⟩ <;> (first | assumption | omega | exact St.has_add (by assumption) | (simp only [ins_has]; exact St.has_add (by assumption)) | (simp only [ins_has, fresh_ins, kill_ins, add_ins] at *; exact St.has_add (by assumption)) | (simp only [*, ins_has, has_full, St.has_add]; done) | (simp [-List.map_take, -List.map_drop, or_imp, forall_and, Seg.a, Vec.a, Leg.a, num, okEl, cells_agg, cells_int, cells_sl, cells_bool, AV.isCell]; done) | (simp; omega))) (fun _ _ => ?_))) | (with_reducible refine freshQ_i (fun _ _ => ?_)) | (with_reducible refine nilQ_i (fun _ _ => ?_)) | (with_reducible first | refine callH_use (hmay) ?_ | refine pureQ_use (hmay) ?_) | (with_reducible first | refine callH_use (hA) ?_ | refine pureQ_use (hA) ?_) | (with_reducible first | refine callH_use (hB) ?_ | refine pureQ_use (hB) ?_) | (with_reducible first | refine callH_use (LE_v _ _ _ _) ?_ | refine pureQ_use (LE_v _ _ _ _) ?_)))
  · rename_i hm
    rw [HM.out, hm]; rfl
  · have hm : (mayF f && mayF g) = true := by assumption
    have h2 : leV (atF f a) (atF g a) = false := by
      show (decide ((atF f a).m ≤ (atF g a).m) && decide ((atF f a).c ≤ (atF g a).c)) = false
      assumption
    rw [HM.out, hm, h2]; rfl
  rename_i b5 h5 b6 h6 n65 n56 b7 h7 n75 n57 n76 n67 b8 h8 n85 n58 n86 n68 n87 n78 hm hle
  have HN : Hid (leC f g a = leFindI L (hitI a)) := ⟨by
    have h2 : leV (atF f a) (atF g a) = true := hle
    rw [HM.out, hm, h2]; rfl⟩
  clear HM hmay hA hB
  refine callH_then (both_c f g t t' _) ?_
  rintro _ _ ⟨bf, bg, hbf, hbg, nfg, rfl, rfl⟩
  have ngf : ¬ bg = bf := fun e => nfg e.symm
  simp only [ins_objs, ite_some_none] at hbf hbg
  simp only [↓vD, vU, VE.ev, VE.evs, retvs, tupOf, grab, vfill, vbsl, eqCells, eqCell, veqs, veqs1, vmnx, AV.isCell, AV.isUndef, Nat.reduceEqDiff, Nat.reduceAdd, Nat.reduceSub, Nat.reduceLeDiff, Nat.reduceLT, reduceIte, reduceCtorEq, Nat.reduceBEq, k_app, k_slc1]
  refine rng_of (gf := 121) (fs := []) (cs := [.ptr bf 0, .ptr bg 0]) ?_ ?_
  · simp only [↓vD, vU, VE.ev, VE.evs, retvs, tupOf, grab, vfill, vbsl, eqCells, eqCell, veqs, veqs1, vmnx, AV.isCell, AV.isUndef, Nat.reduceEqDiff, Nat.reduceAdd, Nat.reduceSub, Nat.reduceLeDiff, Nat.reduceLT, reduceIte, reduceCtorEq, Nat.reduceBEq, k_app, k_slc1]
  intro Y l D r hzy hl hD nlD hyY
  simp only [ins_objs, ite_some_none] at hl hD
  obtain ⟨ngb8, nb8g, ngb7, nb7g, ngb6, nb6g, ngb5, nb5g, hgn⟩ := hbg
  obtain ⟨nfb8, nb8f, nfb7, nb7f, nfb6, nb6f, nfb5, nb5f, hfn⟩ := hbf
  obtain ⟨nlg, ngl, nlf, nfl, nl8, n8l, nl7, n7l, nl6, n6l, nl5, n5l, hln⟩ := hl
  obtain ⟨nDg, ngD, nDf, nfD, nD8, n8D, nD7, n7D, nD6, n6D, nD5, n5D, hDn⟩ := hD
  have nDl : ¬ D = l := fun e => nlD e.symm
  have hmain := both_it (Y := Y) (l := l) f g t t' bf bg nfg (MS b5 b6 b7 b8 D l (.int .i64 a) (.int .i64 0) (.bool false) (.int .i64 0) (lobj r .ready none) st)
    (by simp only [MS, ins_objs, ite_some_none, *, not_false_eq_true, and_self, if_false]) (by simp only [MS, ins_objs, ite_some_none, *, not_false_eq_true, and_self, if_false])
    (fun k S => S = MS b5 b6 b7 b8 D l (.int .i64 a) (.int .i64 0) (.bool false) (.int .i64 0) (lobj r .ready none) st ∧ Hid (∀ j (h1 : j < k) (h2 : j < L.length), hitI a L[j] = false))
    (fun S => ∃ u, S = MS b5 b6 b7 b8 D l (.int .i64 a) (.int .i64 u) (.bool false) (.int .i64 0) (lobj r .done (some .ret)) st ∧ Hid (leFindI L (hitI a) = (u, false, 0)))
    (by rintro k S ⟨rfl, _⟩ i hi; exact MS_none rfl hi) (by rintro S ⟨u, rfl, _⟩ i hi; exact MS_none rfl hi)
    ⟨rfl, ⟨fun j h => by omega⟩⟩ ?_
  rotate_left
  · rw [HL.out]
    rintro k hk S b4 o2 o3 o4 ⟨rfl, HK⟩ hSf hSg hS4 nf4 ng4
    have n4f : ¬ b4 = bf := fun e => nf4 e.symm
    have n4g : ¬ b4 = bg := fun e => ng4 e.symm
    simp only [MS, ins_objs, ite_some_none] at hS4
    obtain ⟨n4l, nl4, n4D, nD4, n48, n84, n47, n74, n46, n64, n45, n54, hW4⟩ := hS4
    have hfind := fun h => find_at (p := hitI a) hk (fun j hj => HK.out j hj (by omega)) h
    obtain ⟨it, hit⟩ : ∃ it, L[k] = it := ⟨_, rfl⟩
    have HT := Hid.mk hit
    simp only [hit] at hfind ⊢
    obtain ⟨tt, va, vc⟩ := it
    have HF := Hid.mk hfind
    have hobD : st.objs D = none := hDn
    clear hit hfind
    refine hyY _ _ _ rfl (by simp only [XS, MS, ins_objs, *, if_true, if_false]) ?_
    rw [XS, MS]
    clear hyY
    (repeat' (first | (simp (config := { maxDischargeDepth := 16 }) only [*, argsFr2_t, argsFr2_d, nowA, qr_normal, qr_ret, qr_exit, vX, Int.reduceLE, Int.reduceLT, Int.reduceGE, Int.reduceGT, Int.reduceBEq, Int.reduceBNe, Int.reduceAdd, Int.reduceSub, Int.reduceMul, Int.reduceNeg, ↓vD, vU, VE.ev, VE.evs, retvs, tupOf, grab, vfill, vbsl, eqCells, eqCell, veqs, veqs1, vmnx, AV.isCell, AV.isUndef, Nat.reduceEqDiff, Nat.reduceAdd, Nat.reduceSub, Nat.reduceLeDiff, Nat.reduceLT, reduceIte, reduceCtorEq, Nat.reduceBEq]) | (simp (disch := first | assumption | omega | exact Seg.len _ | exact Vec.len _ | exact Leg.len _ | exact num_len _ | exact rowA_len _ | exact rowA_len | exact rowT_len _ | exact rowT_len | exact Seg.len | exact Vec.len | exact Leg.len | exact num_len | exact AV.slen _ _ | rfl) only [argsFr2_t, argsFr2_d, nowA, qr_normal, qr_ret, qr_exit, vP]) | (with_reducible (first | refine gsnd (fun _ => ?_) (fun _ => ?_) | refine csnd (fun _ => ?_) (fun _ => ?_) | refine gsd (fun _ => ?_) (fun _ => ?_) | refine csd (fun _ => ?_) (fun _ => ?_) | refine gsn (fun _ => ?_) (fun _ => ?_) | refine csn (fun _ => ?_) (fun _ => ?_))) | (with_reducible refine gs (fun _ => ?_) (fun _ => ?_)) | (with_reducible refine cs_ (fun _ => ?_) (fun _ => ?_)) | (with_reducible refine objQ_i (fun _ _ => ?_); (repeat (with_reducible refine imp_i (fun _ => ?_)))) | ((try with_reducible refine appK_a ?_); first | (with_reducible refine appD_F (by refine ⟨?_, ?_, ?_, ?_⟩ <;> (first | assumption | omega | exact St.has_add (by assumption) | (simp only [ins_has]; exact St.has_add (by assumption)) | (simp only [ins_has, fresh_ins, kill_ins, add_ins] at *; exact St.has_add (by assumption)) | (simp only [*, ins_has, has_full, St.has_add]; done) | (simp [-List.map_take, -List.map_drop, or_imp, forall_and, Seg.a, Vec.a, Leg.a, num, okEl, cells_agg, cells_int, cells_sl, cells_bool, AV.isCell]; done) | (simp; omega))) (fun _ _ => ?_)) | (with_reducible refine appD_V (by refine ⟨?_, ?_, ?_, ?_, ?_⟩ <;> (first | assumption | omega | exact St.has_add (by assumption) | (simp only [ins_has]; exact St.has_add (by assumption)) | (simp only [ins_has, fresh_ins, kill_ins, add_ins] at *; exact St.has_add (by assumption)) | (simp only [*, ins_has, has_full, St.has_add]; done) | (simp [-List.map_take, -List.map_drop, or_imp, forall_and, Seg.a, Vec.a, Leg.a, num, okEl, cells_agg, cells_int, cells_sl, cells_bool, AV.isCell]; done) | (simp; omega))) (fun _ _ => ?_))) | (with_reducible refine freshQ_i (fun _ _ => ?_)) | (with_reducible refine nilQ_i (fun _ _ => ?_)) | (with_reducible first | refine callH_use (LE_v _ _ _ _) ?_ | refine pureQ_use (LE_v _ _ _ _) ?_)))
    · have h3 : a ≤ tt := by assumption
      have h4 : (decide (va.m ≤ vc.m) && decide (va.c ≤ vc.c)) = false := by assumption
      have hh : hitI a (tt, va, vc) = true := by simp only [hitI, leV, h4, decide_eq_true h3]; rfl
      refine .inr ⟨rfl, MS b5 b6 b7 b8 D l (.int .i64 a) (.int .i64 tt) (.bool false) (.int .i64 0) (lobj r .done (some .ret)) st, ⟨tt, rfl, ⟨by rw [leFindI, HF.out hh]⟩⟩, ?_⟩
      rw [XS, MS]
      (refine leX.start ?_ rfl; (repeat (refine leX.in_ (by simp only [*, ins_objs, if_true, if_false]; first | done | rfl) ?_)); (repeat (first | refine leX.new (by first | assumption | (rw [hob]; assumption)) ?_ | refine leX.old (by (simp only [List.mem_cons, true_or, or_true, eq_self]; done)) ?_)); exact leX.refl _ _)
    all_goals
      have hh : hitI a (tt, va, vc) = false := by
        first
        | (simp only [hitI, decide_eq_false (by assumption : ¬ a ≤ tt)]; rfl)
        | (simp only [hitI, leV, (by assumption : (decide (va.m ≤ vc.m) && decide (va.c ≤ vc.c)) = true)]; simp)
      refine .inl ⟨rfl, MS b5 b6 b7 b8 D l (.int .i64 a) (.int .i64 0) (.bool false) (.int .i64 0) (lobj r .ready none) st, ⟨rfl, ⟨fun j h1 h2 => ?_⟩⟩, ?_⟩
      · rcases Nat.lt_or_ge j k with hjk | hjk
        · exact HK.out j hjk h2
        · have hj : j = k := by omega
          subst hj
          rw [HT.out]; exact hh
      · rw [XS, MS]
        clear hh
        (refine leX.start ?_ rfl; (repeat (refine leX.in_ (by simp only [*, ins_objs, if_true, if_false]; first | done | rfl) ?_)); (repeat (first | refine leX.new (by first | assumption | (rw [hob]; assumption)) ?_ | refine leX.old (by (simp only [List.mem_cons, true_or, or_true, eq_self]; done)) ?_)); exact leX.refl _ _)
  · refine VCalls.st_eq (VCalls.wk hmain ?_) (by rw [MS]; exact (by simp only [St.ins]; congr 1; funext i; (repeat' split) <;> (first | rfl | contradiction | (subst_vars; contradiction) | (subst_vars; rfl))))
    rintro v s ⟨rfl, S', hIE, hle⟩
    refine ⟨_, S', Wk.le hle _, ?_⟩
    clear hmain hle
    rcases hIE with ⟨rfl, HK⟩ | ⟨u, rfl, HE⟩
    · refine ⟨.ready, none, by simp, by simp [MS, St.ins], ?_⟩
      rw [jq_none, MS]
      rw [HL.out] at HK
      have hno := find_no (p := hitI a) (xs := L) (fun j h => HK.out j h h)
      have HO := Hid.mk hno
      clear hyY HK hno
      (repeat' (first | (simp (config := { maxDischargeDepth := 16 }) only [*, vX, Int.reduceLE, Int.reduceLT, Int.reduceGE, Int.reduceGT, Int.reduceBEq, Int.reduceBNe, Int.reduceAdd, Int.reduceSub, Int.reduceMul, Int.reduceNeg, ↓vD, vU, VE.ev, VE.evs, retvs, tupOf, grab, vfill, vbsl, eqCells, eqCell, veqs, veqs1, vmnx, AV.isCell, AV.isUndef, Nat.reduceEqDiff, Nat.reduceAdd, Nat.reduceSub, Nat.reduceLeDiff, Nat.reduceLT, reduceIte, reduceCtorEq, Nat.reduceBEq]) | (simp (disch := first | assumption | omega | exact Seg.len _ | exact Vec.len _ | exact Leg.len _ | exact num_len _ | exact rowA_len _ | exact rowA_len | exact rowT_len _ | exact rowT_len | exact Seg.len | exact Vec.len | exact Leg.len | exact num_len | exact AV.slen _ _ | rfl) only [vP]) | (with_reducible (first | refine gsnd (fun _ => ?_) (fun _ => ?_) | refine csnd (fun _ => ?_) (fun _ => ?_) | refine gsd (fun _ => ?_) (fun _ => ?_) | refine csd (fun _ => ?_) (fun _ => ?_) | refine gsn (fun _ => ?_) (fun _ => ?_) | refine csn (fun _ => ?_) (fun _ => ?_))) | (with_reducible refine gs (fun _ => ?_) (fun _ => ?_)) | (with_reducible refine cs_ (fun _ => ?_) (fun _ => ?_)) | (with_reducible refine objQ_i (fun _ _ => ?_); (repeat (with_reducible refine imp_i (fun _ => ?_)))) | ((try with_reducible refine appK_a ?_); first | (with_reducible refine appD_F (by refine ⟨?_, ?_, ?_, ?_⟩ <;> (first | assumption | omega | exact St.has_add (by assumption) | (simp only [ins_has]; exact St.has_add (by assumption)) | (simp only [ins_has, fresh_ins, kill_ins, add_ins] at *; exact St.has_add (by assumption)) | (simp only [*, ins_has, has_full, St.has_add]; done) | (simp [-List.map_take, -List.map_drop, or_imp, forall_and, Seg.a, Vec.a, Leg.a, num, okEl, cells_agg, cells_int, cells_sl, cells_bool, AV.isCell]; done) | (simp; omega))) (fun _ _ => ?_)) | (with_reducible refine appD_V (by refine ⟨?_, ?_, ?_, ?_, ?_⟩ <;> (first | assumption | omega | exact St.has_add (by assumption) | (simp only [ins_has]; exact St.has_add (by assumption)) | (simp only [ins_has, fresh_ins, kill_ins, add_ins] at *; exact St.has_add (by assumption)) | (simp only [*, ins_has, has_full, St.has_add]; done) | (simp [-List.map_take, -List.map_drop, or_imp, forall_and, Seg.a, Vec.a, Leg.a, num, okEl, cells_agg, cells_int, cells_sl, cells_bool, AV.isCell]; done) | (simp; omega))) (fun _ _ => ?_))) | (with_reducible refine freshQ_i (fun _ _ => ?_)) | (with_reducible refine nilQ_i (fun _ _ => ?_))))
      have hm : leC f g a = (0, true, 0) := by rw [HN.out, leFindI, HO.out]
      refine ⟨_, st, rfl, ?_, by simp, ?_, by rw [hm]; rfl, rfl⟩
      · intro D' hD'
        have : D' = D := by simpa using hD'
        subst this
        exact ⟨by simp only [*, ins_objs, if_true, if_false], hDn⟩
      · (refine leX.start ?_ rfl; (repeat (refine leX.in_ (by simp only [*, ins_objs, if_true, if_false]; first | done | rfl) ?_)); (repeat (first | refine leX.new (by first | assumption | (rw [hob]; assumption)) ?_ | refine leX.old (by (simp only [List.mem_cons, true_or, or_true, eq_self]; done)) ?_)); exact leX.refl _ _)
    · refine ⟨.done, some .ret, by simp, by simp [MS, St.ins], ?_⟩
      rw [jq_ret, MS]
      clear hyY
      (repeat' (first | (simp (config := { maxDischargeDepth := 16 }) only [*, vX, Int.reduceLE, Int.reduceLT, Int.reduceGE, Int.reduceGT, Int.reduceBEq, Int.reduceBNe, Int.reduceAdd, Int.reduceSub, Int.reduceMul, Int.reduceNeg, ↓vD, vU, VE.ev, VE.evs, retvs, tupOf, grab, vfill, vbsl, eqCells, eqCell, veqs, veqs1, vmnx, AV.isCell, AV.isUndef, Nat.reduceEqDiff, Nat.reduceAdd, Nat.reduceSub, Nat.reduceLeDiff, Nat.reduceLT, reduceIte, reduceCtorEq, Nat.reduceBEq]) | (simp (disch := first | assumption | omega | exact Seg.len _ | exact Vec.len _ | exact Leg.len _ | exact num_len _ | exact rowA_len _ | exact rowA_len | exact rowT_len _ | exact rowT_len | exact Seg.len | exact Vec.len | exact Leg.len | exact num_len | exact AV.slen _ _ | rfl) only [vP]) | (with_reducible (first | refine gsnd (fun _ => ?_) (fun _ => ?_) | refine csnd (fun _ => ?_) (fun _ => ?_) | refine gsd (fun _ => ?_) (fun _ => ?_) | refine csd (fun _ => ?_) (fun _ => ?_) | refine gsn (fun _ => ?_) (fun _ => ?_) | refine csn (fun _ => ?_) (fun _ => ?_))) | (with_reducible refine gs (fun _ => ?_) (fun _ => ?_)) | (with_reducible refine cs_ (fun _ => ?_) (fun _ => ?_)) | (with_reducible refine objQ_i (fun _ _ => ?_); (repeat (with_reducible refine imp_i (fun _ => ?_)))) | ((try with_reducible refine appK_a ?_); first | (with_reducible refine appD_F (by refine ⟨?_, ?_, ?_, ?_⟩ <;> (first | assumption | omega | exact St.has_add (by assumption) | (simp only [ins_has]; exact St.has_add (by assumption)) | (simp only [ins_has, fresh_ins, kill_ins, add_ins] at *; exact St.has_add (by assumption)) | (simp only [*, ins_has, has_full, St.has_add]; done) | (simp [-List.map_take, -List.map_drop, or_imp, forall_and, Seg.a, Vec.a, Leg.a, num, okEl, cells_agg, cells_int, cells_sl, cells_bool, AV.isCell]; done) | (simp; omega))) (fun _ _ => ?_)) | (with_reducible refine appD_V (by refine ⟨?_, ?_, ?_, ?_, ?_⟩ <;> (first | assumption | omega | exact St.has_add (by assumption) | (simp only [ins_has]; exact St.has_add (by assumption)) | (simp only [ins_has, fresh_ins, kill_ins, add_ins] at *; exact St.has_add (by assumption)) | (simp only [*, ins_has, has_full, St.has_add]; done) | (simp [-List.map_take, -List.map_drop, or_imp, forall_and, Seg.a, Vec.a, Leg.a, num, okEl, cells_agg, cells_int, cells_sl, cells_bool, AV.isCell]; done) | (simp; omega))) (fun _ _ => ?_))) | (with_reducible refine freshQ_i (fun _ _ => ?_)) | (with_reducible refine nilQ_i (fun _ _ => ?_))))
      have hm : leC f g a = (u, false, 0) := by rw [HN.out, HE.out]
      refine ⟨_, st, rfl, ?_, by simp, ?_, by rw [hm]; rfl, rfl⟩
      · intro D' hD'
        have : D' = D := by simpa using hD'
        subst this
        exact ⟨by simp only [*, ins_objs, if_true, if_false], hDn⟩
      · (refine leX.start ?_ rfl; (repeat (refine leX.in_ (by simp only [*, ins_objs, if_true, if_false]; first | done | rfl) ?_)); (repeat (first | refine leX.new (by first | assumption | (rw [hob]; assumption)) ?_ | refine leX.old (by (simp only [List.mem_cons, true_or, or_true, eq_self]; done)) ?_)); exact leX.refl _ _)
end Go.Proofs.Ytddbnncimggogaa.V
end
section
set_option linter.unusedSimpArgs false
set_option linter.unusedVariables false
/- What calc's functions mean: plain. -/
namespace Go.Proofs.Ytddbnncimggogaa.V
open Go Go.Proofs Go.Proofs.Ytddbnncimggogaa.SP
/-! ### Rising rows of times -/
theorem up_unique : ∀ (l m : List Int), l.Pairwise (· < ·) → m.Pairwise (· < ·) → (∀ x, x ∈ l ↔ x ∈ m) → l = m
  | [], [], _, _, _ => rfl
  | [], y :: m, _, _, h => absurd ((h y).2 (by simp)) (by simp)
  | x :: l, [], _, _, h => absurd ((h x).1 (by simp)) (by simp)
  | x :: l, y :: m, hl, hm, h => by
    have h1 := List.pairwise_cons.1 hl
    have h2 := List.pairwise_cons.1 hm
    have hxy : x = y := by
      have a := (h x).1 (by simp)
      have b := (h y).2 (by simp)
      rcases List.mem_cons.1 a with a | a
      · exact a
      · rcases List.mem_cons.1 b with b | b
        · exact b.symm
        · have := h1.1 y b; have := h2.1 x a; omega
    subst hxy
    congr 1
    refine up_unique l m h1.2 h2.2 (fun z => ⟨fun hz => ?_, fun hz => ?_⟩)
    · rcases List.mem_cons.1 ((h z).1 (by simp [hz])) with e | e
      · have := h1.1 z hz; omega
      · exact e
    · rcases List.mem_cons.1 ((h z).2 (by simp [hz])) with e | e
      · have := h2.1 z hz; omega
      · exact e
def insR : List Int → Int → List Int
  | [], x => [x]
  | y :: l, x => if y < x then y :: insR l x else if y = x then y :: l else x :: y :: l
theorem insT_R : ∀ (l : List Int) (x : Int), insT l x = insR l x
  | [], x => by simp [insT, insR, cntT]
  | y :: l, x => by
    have ih := insT_R l x
    unfold insT at ih
    unfold insT insR cntT
    by_cases h : y < x
    · rw [if_pos h, if_pos h]
      simp only [List.getElem?_cons_succ, List.take_succ_cons, List.drop_succ_cons, List.cons_append]
      rw [← ih]
      split <;> rfl
    · rw [if_neg h, if_neg h]
      by_cases h2 : y = x
      · simp [h2]
      · simp [h2]
theorem mem_insR : ∀ (l : List Int) (x z : Int), z ∈ insR l x ↔ z = x ∨ z ∈ l
  | [], x, z => by simp [insR]
  | y :: l, x, z => by
    unfold insR
    split
    · simp only [List.mem_cons, mem_insR l x z]; grind
    · split <;> simp only [List.mem_cons] <;> grind
theorem up_insR : ∀ (l : List Int) (x : Int), l.Pairwise (· < ·) → (insR l x).Pairwise (· < ·)
  | [], x, _ => by simp [insR]
  | y :: l, x, h => by
    have hy := List.pairwise_cons.1 h
    unfold insR
    split
    · rename_i h1
      refine List.pairwise_cons.2 ⟨fun z hz => ?_, up_insR l x hy.2⟩
      rcases (mem_insR l x z).1 hz with rfl | hz
      · exact h1
      · exact hy.1 z hz
    · split
      · exact h
      · refine List.pairwise_cons.2 ⟨fun z hz => ?_, h⟩
        rcases List.mem_cons.1 hz with rfl | hz
        · omega
        · have := hy.1 z hz; omega
theorem times_fold : ∀ (l acc : List Int), acc.Pairwise (· < ·) → (l.foldl insT acc).Pairwise (· < ·) ∧ ∀ z, z ∈ l.foldl insT acc ↔ z ∈ acc ∨ z ∈ l
  | [], acc, h => ⟨h, by simp⟩
  | x :: l, acc, h => by
    have h1 : (insT acc x).Pairwise (· < ·) := by rw [insT_R]; exact up_insR acc x h
    obtain ⟨a, b⟩ := times_fold l (insT acc x) h1
    refine ⟨a, fun z => ?_⟩
    rw [List.foldl_cons, b z, insT_R, mem_insR, List.mem_cons]
    grind
theorem timesF_up (l : List Int) : (timesF l).Pairwise (· < ·) := (times_fold l [] List.Pairwise.nil).1
theorem mem_timesF (l : List Int) (z : Int) : z ∈ timesF l ↔ z ∈ l := by
  have := (times_fold l [] List.Pairwise.nil).2 z
  simpa [timesF] using this
theorem timesF_self {l : List Int} (h : l.Pairwise (· < ·)) : timesF l = l := up_unique _ _ (timesF_up l) h (mem_timesF l)
/-! ### What may be -/
def mayL : List Seg → Vec → Int → Bool
  | [], _, _ => true
  | x :: r, l, a => !odd l a x && mayL r x.v x.t
def oddG (l : Vec) (a : Int) (xs : List Seg) (k : Nat) : Bool := (xs[k]?.map (odd (if k = 0 then l else (xs[k - 1]?.map (·.v)).getD v0) (if k = 0 then a else (xs[k - 1]?.map (·.t)).getD 0))).getD false
theorem mayL_any : ∀ (xs : List Seg) (l : Vec) (a : Int), (List.range xs.length).any (oddG l a xs) = !mayL xs l a
  | [], l, a => rfl
  | x :: r, l, a => by
    have ih := mayL_any r x.v x.t
    rw [List.length_cons, List.range_succ_eq_map, List.any_cons, List.any_map]
    have e : (oddG l a (x :: r)) ∘ Nat.succ = oddG x.v x.t r := by
      funext k
      cases k with
      | zero => simp [oddG]
      | succ k => simp [oddG]
    rw [e, ih]
    simp [oddG, mayL]
theorem mayF_L (xs : List Seg) : mayF xs = mayL xs v0 (-1125899906842625) := by
  have h := mayL_any xs v0 (-1125899906842625)
  have e : oddI xs = oddG v0 (-1125899906842625) xs := by funext k; rfl
  unfold mayF
  rw [e, h]; simp
theorem mayL_iff : ∀ (xs : List Seg) (l : Vec) (a : Int), mayL xs l a = true ↔ Canon xs l ∧ (∀ x ∈ xs, inSeg x = true) ∧ ∀ x ∈ xs, a < x.t
  | [], l, a => by simp [mayL, Canon]
  | x :: r, l, a => by
    rw [mayL, Bool.and_eq_true, mayL_iff r x.v x.t, Canon]
    have ho : (!odd l a x) = true ↔ inSeg x = true ∧ ¬ x.v = l ∧ a < x.t := by
      unfold odd
      simp only [Bool.not_eq_true', Bool.or_eq_false_iff, beq_eq_false_iff_ne, ne_eq, decide_eq_false_iff_not, Bool.not_eq_false']
      constructor
      · rintro ⟨⟨h1, h2⟩, h3⟩; exact ⟨h1, h2, by omega⟩
      · rintro ⟨h1, h2, h3⟩; exact ⟨⟨h1, h2⟩, by omega⟩
    rw [ho]
    constructor
    · rintro ⟨⟨h1, h2, h3⟩, h4, h5, h6⟩
      refine ⟨⟨h2, h6, h4⟩, fun y hy => ?_, fun y hy => ?_⟩
      · rcases List.mem_cons.1 hy with rfl | hy
        · exact h1
        · exact h5 y hy
      · rcases List.mem_cons.1 hy with rfl | hy
        · exact h3
        · have := h6 y hy; omega
    · rintro ⟨⟨h2, h6, h4⟩, h5, h7⟩
      exact ⟨⟨h5 x (by simp), h2, h7 x (by simp)⟩, h4, fun y hy => h5 y (by simp [hy]), h6⟩
theorem mayF_iff (xs : List Seg) : mayF xs = true ↔ Canon xs v0 ∧ ∀ x ∈ xs, inSeg x = true := by
  rw [mayF_L, mayL_iff]
  refine ⟨fun h => ⟨h.1, h.2.1⟩, fun h => ⟨h.1, h.2, fun x hx => ?_⟩⟩
  have := h.2 x hx
  unfold inSeg inR at this
  simp only [Bool.and_eq_true, decide_eq_true_eq] at this
  omega
theorem Canon.up : ∀ {xs : List Seg} {l : Vec}, Canon xs l → (xs.map (·.t)).Pairwise (· < ·)
  | [], _, _ => List.Pairwise.nil
  | x :: r, l, h => by
    rw [List.map_cons, List.pairwise_cons]
    refine ⟨fun z hz => ?_, h.2.2.up⟩
    obtain ⟨y, hy, rfl⟩ := List.mem_map.1 hz
    exact h.2.1 y hy
/-! ### Both at once -/
theorem atF_P (xs : List Seg) (t : Int) : atF xs t = atP v0 xs t := rfl
theorem both_spec : ∀ (f g : List Seg) (a b : Vec), (f.map (·.t)).Pairwise (· < ·) → (g.map (·.t)).Pairwise (· < ·) →
    ((bothF f g a b).map (·.1)).Pairwise (· < ·) ∧ (∀ t, t ∈ (bothF f g a b).map (·.1) ↔ t ∈ f.map (·.t) ∨ t ∈ g.map (·.t)) ∧ ∀ it ∈ bothF f g a b, it.2.1 = atP a f it.1 ∧ it.2.2 = atP b g it.1
  | [], [], a, b, _, _ => by rw [bothF]; simp
  | x :: f, [], a, b, hf, hg => by
    rw [List.map_cons, List.pairwise_cons] at hf
    obtain ⟨h1, h2, h3⟩ := both_spec f [] x.v b hf.2 hg
    have hlt : ∀ t ∈ (bothF f [] x.v b).map (·.1), x.t < t := fun t ht => hf.1 t (by rcases (h2 t).1 ht with h | h; exact h; simp at h)
    rw [bothF]
    refine ⟨by rw [List.map_cons, List.pairwise_cons]; exact ⟨hlt, h1⟩, fun t => ?_, fun it hit => ?_⟩
    · rw [List.map_cons, List.mem_cons, h2 t]; simp
    · rcases List.mem_cons.1 hit with rfl | hit
      · refine ⟨?_, rfl⟩
        rw [atP_cons _ _ _ _ (Int.le_refl _), atP_late _ _ _ (fun z hz => hf.1 z.t (List.mem_map.2 ⟨z, hz, rfl⟩))]
      · have hl := hlt it.1 (List.mem_map.2 ⟨it, hit, rfl⟩)
        rw [atP_cons _ _ _ _ (by omega)]
        exact h3 it hit
  | [], y :: g, a, b, hf, hg => by
    rw [List.map_cons, List.pairwise_cons] at hg
    obtain ⟨h1, h2, h3⟩ := both_spec [] g a y.v hf hg.2
    have hlt : ∀ t ∈ (bothF [] g a y.v).map (·.1), y.t < t := fun t ht => hg.1 t (by rcases (h2 t).1 ht with h | h; simp at h; exact h)
    rw [bothF]
    refine ⟨by rw [List.map_cons, List.pairwise_cons]; exact ⟨hlt, h1⟩, fun t => ?_, fun it hit => ?_⟩
    · rw [List.map_cons, List.mem_cons, h2 t]; simp
    · rcases List.mem_cons.1 hit with rfl | hit
      · refine ⟨rfl, ?_⟩
        rw [atP_cons _ _ _ _ (Int.le_refl _), atP_late _ _ _ (fun z hz => hg.1 z.t (List.mem_map.2 ⟨z, hz, rfl⟩))]
      · have hl := hlt it.1 (List.mem_map.2 ⟨it, hit, rfl⟩)
        rw [atP_cons b _ _ _ (by omega)]
        exact h3 it hit
  | x :: f, y :: g, a, b, hf, hg => by
    have hf' := hf; have hg' := hg
    rw [List.map_cons, List.pairwise_cons] at hf hg
    have lateF : ∀ t, t ≤ x.t → ∀ z ∈ f, t < z.t := fun t ht z hz => by have := hf.1 z.t (List.mem_map.2 ⟨z, hz, rfl⟩); omega
    have lateG : ∀ t, t ≤ y.t → ∀ z ∈ g, t < z.t := fun t ht z hz => by have := hg.1 z.t (List.mem_map.2 ⟨z, hz, rfl⟩); omega
    rw [bothF]
    split
    · rename_i c
      obtain ⟨h1, h2, h3⟩ := both_spec f (y :: g) x.v b hf.2 hg'
      have hlt : ∀ t ∈ (bothF f (y :: g) x.v b).map (·.1), x.t < t := fun t ht => by
        rcases (h2 t).1 ht with h | h
        · exact hf.1 t h
        · rw [List.map_cons, List.mem_cons] at h
          rcases h with rfl | h
          · exact c
          · have := hg.1 t h; omega
      refine ⟨by rw [List.map_cons, List.pairwise_cons]; exact ⟨hlt, h1⟩, fun t => ?_, fun it hit => ?_⟩
      · rw [List.map_cons, List.mem_cons, h2 t]; simp only [List.map_cons, List.mem_cons]; grind
      · rcases List.mem_cons.1 hit with rfl | hit
        · refine ⟨?_, ?_⟩
          · rw [atP_cons _ _ _ _ (Int.le_refl _), atP_late _ _ _ (lateF _ (Int.le_refl _))]
          · rw [atP_late b _ _ (fun z hz => by rcases List.mem_cons.1 hz with rfl | hz; exact c; exact lateG _ (Int.le_of_lt c) z hz)]
        · have hl := hlt it.1 (List.mem_map.2 ⟨it, hit, rfl⟩)
          rw [atP_cons a _ _ _ (by omega)]
          exact h3 it hit
    · split
      · rename_i c0 c
        obtain ⟨h1, h2, h3⟩ := both_spec (x :: f) g a y.v hf' hg.2
        have hlt : ∀ t ∈ (bothF (x :: f) g a y.v).map (·.1), y.t < t := fun t ht => by
          rcases (h2 t).1 ht with h | h
          · rw [List.map_cons, List.mem_cons] at h
            rcases h with rfl | h
            · exact c
            · have := hf.1 t h; omega
          · exact hg.1 t h
        refine ⟨by rw [List.map_cons, List.pairwise_cons]; exact ⟨hlt, h1⟩, fun t => ?_, fun it hit => ?_⟩
        · rw [List.map_cons, List.mem_cons, h2 t]; simp only [List.map_cons, List.mem_cons]; grind
        · rcases List.mem_cons.1 hit with rfl | hit
          · refine ⟨?_, ?_⟩
            · rw [atP_late a _ _ (fun z hz => by rcases List.mem_cons.1 hz with rfl | hz; exact c; exact lateF _ (Int.le_of_lt c) z hz)]
            · rw [atP_cons _ _ _ _ (Int.le_refl _), atP_late _ _ _ (lateG _ (Int.le_refl _))]
          · have hl := hlt it.1 (List.mem_map.2 ⟨it, hit, rfl⟩)
            rw [atP_cons b _ _ _ (by omega)]
            exact h3 it hit
      · rename_i c0 c1
        have c : x.t = y.t := by omega
        obtain ⟨h1, h2, h3⟩ := both_spec f g x.v y.v hf.2 hg.2
        have hlt : ∀ t ∈ (bothF f g x.v y.v).map (·.1), x.t < t := fun t ht => by
          rcases (h2 t).1 ht with h | h
          · exact hf.1 t h
          · have := hg.1 t h; omega
        refine ⟨by rw [List.map_cons, List.pairwise_cons]; exact ⟨hlt, h1⟩, fun t => ?_, fun it hit => ?_⟩
        · rw [List.map_cons, List.mem_cons, h2 t]; simp only [List.map_cons, List.mem_cons]; grind
        · rcases List.mem_cons.1 hit with rfl | hit
          · refine ⟨?_, ?_⟩
            · rw [atP_cons _ _ _ _ (Int.le_refl _), atP_late _ _ _ (lateF _ (Int.le_refl _))]
            · rw [atP_cons _ _ _ _ (by omega), atP_late _ _ _ (lateG _ (by omega))]
          · have hl := hlt it.1 (List.mem_map.2 ⟨it, hit, rfl⟩)
            rw [atP_cons a _ _ _ (by omega), atP_cons b _ _ _ (by omega)]
            exact h3 it hit
termination_by f g => f.length + g.length
theorem both_times (f g : List Seg) (hf : (f.map (·.t)).Pairwise (· < ·)) (hg : (g.map (·.t)).Pairwise (· < ·)) : bothF f g v0 v0 = (timesF (f.map (·.t) ++ g.map (·.t))).map fun t => (t, atF f t, atF g t) := by
  obtain ⟨h1, h2, h3⟩ := both_spec f g v0 v0 hf hg
  have e : (bothF f g v0 v0).map (·.1) = timesF (f.map (·.t) ++ g.map (·.t)) := up_unique _ _ h1 (timesF_up _) (fun t => by rw [h2 t, mem_timesF, List.mem_append])
  rw [← e, List.map_map]
  conv => lhs; rw [← List.map_id (bothF f g v0 v0)]
  refine List.map_congr_left (fun it hit => ?_)
  obtain ⟨a, b⟩ := h3 it hit
  obtain ⟨t, u, v⟩ := it
  simp only at a b
  simp [atF_P, ← a, ← b]
end Go.Proofs.Ytddbnncimggogaa.V
end
section
set_option linter.unusedSimpArgs false
set_option linter.unusedVariables false
/- calc's functions are the document's: plain. -/
namespace Go.Proofs.Ytddbnncimggogaa.V
open Go Go.Proofs Go.Proofs.Ytddbnncimggogaa.SP
theorem inR_iff (n : Int) : inR n = true ↔ -1125899906842624 ≤ n ∧ n ≤ 1125899906842624 := by unfold inR; simp
theorem mayV_iff (v : Vec) : mayV v = true ↔ (-1125899906842624 ≤ v.m ∧ v.m ≤ 1125899906842624) ∧ (-1125899906842624 ≤ v.c ∧ v.c ≤ 1125899906842624) := by
  unfold mayV; rw [Bool.and_eq_true, inR_iff, inR_iff]
theorem wr_id {n : Int} (h1 : -9223372036854775808 ≤ n) (h2 : n ≤ 9223372036854775807) : wr n = n := wrap_i64 n h1 h2
theorem atF_may {f : List Seg} (h : ∀ x ∈ f, inSeg x = true) (t : Int) : mayV (atF f t) = true := by
  unfold atF
  have : ∀ (l : List Seg) (v : Vec), (∀ x ∈ l, inSeg x = true) → mayV v = true → mayV (l.foldl (fun v x => if x.t ≤ t then x.v else v) v) = true := by
    intro l
    induction l with
    | nil => intro v _ hv; exact hv
    | cons x l ih =>
      intro v hl hv
      rw [List.foldl_cons]
      refine ih _ (fun y hy => hl y (by simp [hy])) ?_
      split
      · have := hl x (by simp)
        unfold inSeg at this
        rw [Bool.and_eq_true] at this
        exact this.2
      · exact hv
  exact this f v0 h rfl
theorem told1_all (x : Vec) (l : List Vec) (h : ∀ v ∈ l, mayV v = true) : told1 x l = toldF x := by
  unfold told1 toldF
  have : (x :: l).all mayV = mayV x := by
    rw [List.all_cons, List.all_eq_true.2 h, Bool.and_true]
  rw [this]
theorem sub_one (a b : Vec) (ha : mayV a = true) (hb : mayV b = true) : subV a b = oneR 1 a b := by
  have h1 := (mayV_iff a).1 ha
  have h2 := (mayV_iff b).1 hb
  have hn : mayV ⟨wr (-b.m), wr (-b.c)⟩ = true := by
    rw [mayV_iff, wr_id (by omega) (by omega), wr_id (by omega) (by omega)]; simp only; omega
  unfold subV oneR subR addR
  rw [told1_all _ _ (by simp [ha, hb]), if_neg (by omega), if_pos rfl, if_pos hb, if_pos (by rw [ha, hn]; rfl)]
  simp only
  rw [wr_id (n := -b.m) (by omega) (by omega), wr_id (n := -b.c) (by omega) (by omega)]
  rfl
theorem add_one (a b : Vec) (ha : mayV a = true) (hb : mayV b = true) : add2 a b = oneR 0 a b := by
  have h1 := (mayV_iff a).1 ha
  have e : (⟨wr (v0.m + a.m), wr (v0.c + a.c)⟩ : Vec) = a := by
    rw [wr_id (by simp only [v0]; omega) (by simp only [v0]; omega), wr_id (by simp only [v0]; omega) (by simp only [v0]; omega)]
    simp [v0]
  unfold add2 addF oneR addR
  simp only
  rw [e, told1_all a [a] (by simp [ha])]
  have ht : toldF a = (a, 0) := by unfold toldF; rw [if_pos ha]
  rw [ht]
  simp only [if_true]
  unfold addF
  simp only
  rw [told1_all _ [b] (by simp [hb])]
  simp only [ha, hb, Bool.and_self, if_true]
  unfold toldF
  split <;> simp [addF]
theorem oneR_may (w : Int) (a b : Vec) (ha : mayV a = true) (hb : mayV b = true) (h : (oneR w a b).2 = 0) : mayV (oneR w a b).1 = true := by
  have h1 := (mayV_iff a).1 ha
  have h2 := (mayV_iff b).1 hb
  unfold oneR at h ⊢
  split
  · rename_i c
    rw [if_pos c] at h
    unfold addR toldF at h ⊢
    repeat' split
    all_goals simp_all
  · rename_i c
    rw [if_neg c] at h
    split
    · rename_i c2
      rw [if_pos c2] at h
      unfold subR addR toldF at h ⊢
      repeat' split
      all_goals simp_all
    · split
      · rw [mayV_iff]; simp only [minV]; omega
      · rw [mayV_iff]; simp only [maxV]; omega
/-! ### Values one behind the other -/
def withs (h : Int → Vec) (ts : List Int) (acc : List Seg) : List Seg := ts.foldl (fun f t => withF f t (h t)) acc
theorem lastW_snoc (f : List Seg) (x : Seg) : lastW (f ++ [x]) = x.v := by simp [lastW]
theorem canon_snoc : ∀ (f : List Seg) (l : Vec) (x : Seg), Canon f l → (∀ y ∈ f, y.t < x.t) → ¬ x.v = ((f.getLast?.map (·.v)).getD l) → Canon (f ++ [x]) l
  | [], l, x, _, _, h => ⟨by simpa using h, by simp, trivial⟩
  | y :: f, l, x, hf, ht, h => by
    refine ⟨hf.1, fun z hz => ?_, canon_snoc f y.v x hf.2.2 (fun z hz => ht z (by simp [hz])) ?_⟩
    · rcases List.mem_append.1 hz with hz | hz
      · exact hf.2.1 z hz
      · rw [List.mem_singleton.1 hz]; exact ht y (by simp)
    · cases f with
      | nil => simpa using h
      | cons z f =>
        obtain ⟨w, hw⟩ : ∃ w, (z :: f).getLast? = some w := ⟨_, List.getLast?_eq_some_getLast (by simp)⟩
        rw [List.getLast?_cons_cons, hw] at h
        rw [hw]; exact h
theorem with_spec (f : List Seg) (t : Int) (v : Vec) (hc : Canon f v0) (hl : ∀ x ∈ f, x.t < t) :
    Canon (withF f t v) v0 ∧ (∀ x ∈ withF f t v, x.t ≤ t) ∧ (∀ x ∈ withF f t v, x ∈ f ∨ x = ⟨t, v⟩) ∧ ∀ u, atF (withF f t v) u = if t ≤ u then v else atF f u := by
  have hat : ∀ u, t ≤ u → atF f u = lastW f := by
    intro u hu
    have : ∀ (l : List Seg) (v : Vec), (∀ x ∈ l, x.t < t) → l.foldl (fun v x => if x.t ≤ u then x.v else v) v = (l.getLast?.map (·.v)).getD v := by
      intro l
      induction l with
      | nil => intro v _; rfl
      | cons x l ih =>
        intro v hx
        rw [List.foldl_cons, if_pos (by have := hx x (by simp); omega), ih _ (fun y hy => hx y (by simp [hy]))]
        cases l with
        | nil => rfl
        | cons y l =>
          obtain ⟨w, hw⟩ : ∃ w, (y :: l).getLast? = some w := ⟨_, List.getLast?_eq_some_getLast (by simp)⟩
          rw [List.getLast?_cons_cons, hw]; rfl
    exact this f v0 hl
  unfold withF
  split
  · rename_i h
    refine ⟨hc, fun x hx => by have := hl x hx; omega, fun x hx => .inl hx, fun u => ?_⟩
    split
    · rename_i hu; rw [hat u hu, h]
    · rfl
  · rename_i h
    refine ⟨canon_snoc f v0 _ hc hl h, fun x hx => ?_, fun x hx => ?_, fun u => ?_⟩
    · rcases List.mem_append.1 hx with hx | hx
      · have := hl x hx; omega
      · rw [List.mem_singleton.1 hx]; exact Int.le_refl _
    · rcases List.mem_append.1 hx with hx | hx
      · exact .inl hx
      · exact .inr (List.mem_singleton.1 hx)
    · rw [atF_snoc]
/-- The value at the last of some times that is at most a time. -/
def lastH (h : Int → Vec) (ts : List Int) (d : Vec) (u : Int) : Vec := ts.foldl (fun v t => if t ≤ u then h t else v) d
theorem withs_spec (h : Int → Vec) : ∀ (ts : List Int) (acc : List Seg), ts.Pairwise (· < ·) → Canon acc v0 → (∀ x ∈ acc, ∀ t ∈ ts, x.t < t) →
    Canon (withs h ts acc) v0 ∧ (∀ x ∈ withs h ts acc, x ∈ acc ∨ ∃ t ∈ ts, x = ⟨t, h t⟩) ∧ ∀ u, atF (withs h ts acc) u = lastH h ts (atF acc u) u
  | [], acc, _, hc, _ => ⟨hc, fun x hx => .inl hx, fun u => rfl⟩
  | t :: ts, acc, hu, hc, hl => by
    have hu2 := List.pairwise_cons.1 hu
    obtain ⟨c1, c2, c3, c4⟩ := with_spec acc t (h t) hc (fun x hx => hl x hx t (by simp))
    obtain ⟨d1, d2, d3⟩ := withs_spec h ts (withF acc t (h t)) hu2.2 c1 (fun x hx s hs => by have := c2 x hx; have := hu2.1 s hs; omega)
    refine ⟨d1, fun x hx => ?_, fun u => ?_⟩
    · rcases d2 x hx with hx | ⟨s, hs, e⟩
      · rcases c3 x hx with hx | e
        · exact .inl hx
        · exact .inr ⟨t, by simp, e⟩
      · exact .inr ⟨s, by simp [hs], e⟩
    · have := d3 u
      rw [c4] at this
      exact this
theorem lastH_at (h : Int → Vec) : ∀ (ts : List Int) (d : Vec) (u : Int), ts.Pairwise (· < ·) → (lastH h ts d u = d ∧ ∀ t ∈ ts, u < t) ∨ ∃ s ∈ ts, s ≤ u ∧ lastH h ts d u = h s ∧ ∀ t ∈ ts, t ≤ u → t ≤ s
  | [], d, u, _ => .inl ⟨rfl, by simp⟩
  | t :: ts, d, u, hu => by
    have hu2 := List.pairwise_cons.1 hu
    by_cases c : t ≤ u
    · rcases lastH_at h ts (h t) u hu2.2 with ⟨e, hn⟩ | ⟨s, hs, h1, h2, h3⟩
      · refine .inr ⟨t, by simp, c, ?_, fun z hz hzu => ?_⟩
        · unfold lastH; rw [List.foldl_cons, if_pos c]; exact e
        · rcases List.mem_cons.1 hz with rfl | hz
          · exact Int.le_refl _
          · have := hn z hz; omega
      · refine .inr ⟨s, by simp [hs], h1, ?_, fun z hz hzu => ?_⟩
        · unfold lastH; rw [List.foldl_cons, if_pos c]; exact h2
        · rcases List.mem_cons.1 hz with rfl | hz
          · have := hu2.1 s hs; omega
          · exact h3 z hz hzu
    · refine .inl ⟨?_, fun z hz => ?_⟩
      · have : ∀ (l : List Int), (∀ z ∈ l, u < z) → ∀ d, lastH h l d u = d := by
          intro l
          induction l with
          | nil => intro _ d; rfl
          | cons z l ih => intro hz d; unfold lastH; rw [List.foldl_cons, if_neg (by have := hz z (by simp); omega)]; exact ih (fun y hy => hz y (by simp [hy])) d
        exact this (t :: ts) (fun z hz => by rcases List.mem_cons.1 hz with rfl | hz; omega; have := hu2.1 z hz; omega) d
      · rcases List.mem_cons.1 hz with rfl | hz
        · omega
        · have := hu2.1 z hz; omega
/-- A function changes at its own times only. -/
theorem atF_between (f : List Seg) (s u : Int) (hsu : s ≤ u) (h : ∀ x ∈ f, ¬ (s < x.t ∧ x.t ≤ u)) : atF f u = atF f s := by
  unfold atF
  have : ∀ (l : List Seg), (∀ x ∈ l, ¬ (s < x.t ∧ x.t ≤ u)) → ∀ v, l.foldl (fun v x => if x.t ≤ u then x.v else v) v = l.foldl (fun v x => if x.t ≤ s then x.v else v) v := by
    intro l
    induction l with
    | nil => intro _ v; rfl
    | cons x l ih =>
      intro hx v
      have h1 := hx x (by simp)
      rw [List.foldl_cons, List.foldl_cons]
      have e : (if x.t ≤ u then x.v else v) = (if x.t ≤ s then x.v else v) := by
        by_cases c : x.t ≤ s
        · rw [if_pos c, if_pos (by omega)]
        · rw [if_neg c, if_neg (by omega)]
      rw [e]
      exact ih (fun y hy => hx y (by simp [hy])) _
  exact this f h v0
theorem atF_early (f : List Seg) (u : Int) (h : ∀ x ∈ f, u < x.t) : atF f u = v0 := atP_late v0 f u h
/-! ### The document's function of two -/
theorem doF_ok (w : Int) (f g : List Seg) : ∀ (ts : List Int) (acc : List Seg), (∀ t ∈ ts, (oneR w (atF f t) (atF g t)).2 = 0) → doF w f g ts acc = (withs (fun t => (oneR w (atF f t) (atF g t)).1) ts acc, 0)
  | [], acc, _ => rfl
  | t :: ts, acc, h => by
    unfold doF
    rw [if_pos (h t (by simp)), doF_ok w f g ts _ (fun s hs => h s (by simp [hs]))]
    rfl
theorem doF_bad (w : Int) (f g : List Seg) : ∀ (ts : List Int) (acc : List Seg), (∃ t ∈ ts, ¬ (oneR w (atF f t) (atF g t)).2 = 0) → doF w f g ts acc = ([], 10)
  | [], acc, h => by obtain ⟨t, ht, _⟩ := h; cases ht
  | t :: ts, acc, ⟨s, hs, he⟩ => by
    unfold doF
    split
    · rename_i h0
      refine doF_bad w f g ts _ ⟨s, ?_, he⟩
      rcases List.mem_cons.1 hs with rfl | hs
      · exact absurd h0 he
      · exact hs
    · rfl
theorem one_v0 (w : Int) : oneR w v0 v0 = (v0, 0) := by
  unfold oneR
  split
  · decide
  · split
    · decide
    · split <;> decide
/-- Either all goes well, and the function is what is made at each time, or at some time it may not be. -/
theorem doR_law (w : Int) (f g : List Seg) (hf : mayF f = true) (hg : mayF g = true) :
    ((∀ t, (oneR w (atF f t) (atF g t)).2 = 0) ∧ (doR w f g).2 = 0 ∧ mayF (doR w f g).1 = true ∧ ∀ t, atF (doR w f g).1 t = (oneR w (atF f t) (atF g t)).1) ∨
    ((∃ t, ¬ (oneR w (atF f t) (atF g t)).2 = 0) ∧ doR w f g = ([], 10)) := by
  obtain ⟨cf, sf⟩ := (mayF_iff f).1 hf
  obtain ⟨cg, sg⟩ := (mayF_iff g).1 hg
  have hts := timesF_up (f.map (·.t) ++ g.map (·.t))
  have hmem : ∀ t, t ∈ timesF (f.map (·.t) ++ g.map (·.t)) ↔ (∃ x ∈ f, x.t = t) ∨ ∃ x ∈ g, x.t = t := fun t => by
    rw [mem_timesF, List.mem_append, List.mem_map, List.mem_map]
  obtain ⟨ts, hts0⟩ : ∃ ts, timesF (f.map (·.t) ++ g.map (·.t)) = ts := ⟨_, rfl⟩
  rw [hts0] at hts
  simp only [hts0] at hmem
  have hdo : doR w f g = doF w f g ts [] := by unfold doR; rw [hf, hg, hts0]; rfl
  -- at any time, as at the last time ahead of it
  have key : ∀ u, (atF f u = v0 ∧ atF g u = v0 ∧ ∀ t ∈ ts, u < t) ∨ ∃ s ∈ ts, s ≤ u ∧ atF f u = atF f s ∧ atF g u = atF g s ∧ ∀ t ∈ ts, t ≤ u → t ≤ s := fun u => by
    rcases lastH_at (fun _ => v0) ts v0 u hts with ⟨_, h⟩ | ⟨s, hs, h1, _, h2⟩
    · exact .inl ⟨atF_early f u (fun x hx => h x.t ((hmem _).2 (.inl ⟨x, hx, rfl⟩))), atF_early g u (fun x hx => h x.t ((hmem _).2 (.inr ⟨x, hx, rfl⟩))), h⟩
    · refine .inr ⟨s, hs, h1, atF_between f s u h1 (fun x hx hc => ?_), atF_between g s u h1 (fun x hx hc => ?_), h2⟩
      · have := h2 x.t ((hmem _).2 (.inl ⟨x, hx, rfl⟩)) hc.2; omega
      · have := h2 x.t ((hmem _).2 (.inr ⟨x, hx, rfl⟩)) hc.2; omega
  by_cases hall : ∀ t ∈ ts, (oneR w (atF f t) (atF g t)).2 = 0
  · left
    have hok := doF_ok w f g ts [] hall
    obtain ⟨d1, d2, d3⟩ := withs_spec (fun t => (oneR w (atF f t) (atF g t)).1) ts [] hts trivial (by simp)
    rw [hdo, hok]
    refine ⟨fun u => ?_, rfl, (mayF_iff _).2 ⟨d1, fun x hx => ?_⟩, fun u => ?_⟩
    · rcases key u with ⟨e1, e2, _⟩ | ⟨s, hs, _, e1, e2, _⟩
      · rw [e1, e2, one_v0]
      · rw [e1, e2]; exact hall s hs
    · rcases d2 x hx with h | ⟨t, ht, rfl⟩
      · cases h
      · have hm := oneR_may w _ _ (atF_may sf t) (atF_may sg t) (hall t ht)
        have hin : inR t = true := by
          rcases (hmem t).1 ht with ⟨y, hy, rfl⟩ | ⟨y, hy, rfl⟩
          · have := sf y hy; unfold inSeg at this; rw [Bool.and_eq_true] at this; exact this.1
          · have := sg y hy; unfold inSeg at this; rw [Bool.and_eq_true] at this; exact this.1
        unfold inSeg; rw [hin, hm]; rfl
    · show atF (withs (fun t => (oneR w (atF f t) (atF g t)).1) ts []) u = _
      rw [d3 u]
      rcases lastH_at (fun t => (oneR w (atF f t) (atF g t)).1) ts (atF [] u) u hts with ⟨e, hn⟩ | ⟨s, hs, h1, h2, h3⟩
      · rw [e]
        rcases key u with ⟨e1, e2, _⟩ | ⟨s, hs, h4, _⟩
        · rw [e1, e2, one_v0]; rfl
        · have := hn s hs; omega
      · rw [h2]
        rcases key u with ⟨_, _, hn⟩ | ⟨s', hs', h4, e1, e2, h5⟩
        · have := hn s hs; omega
        · have a := h3 s' hs' h4
          have b := h5 s hs h1
          have : s = s' := by omega
          subst this
          simp only [e1, e2]
  · right
    have hex : ∃ t ∈ ts, ¬ (oneR w (atF f t) (atF g t)).2 = 0 := by
      rcases Classical.em (∃ t ∈ ts, ¬ (oneR w (atF f t) (atF g t)).2 = 0) with h | h
      · exact h
      · exact absurd (fun t ht => Classical.byContradiction fun hn => h ⟨t, ht, hn⟩) hall
    obtain ⟨t, ht, he⟩ := hex
    exact ⟨⟨t, he⟩, by rw [hdo]; exact doF_bad w f g ts [] ⟨t, ht, he⟩⟩
/-! ### The program's way -/
theorem srt_self {xs : List Seg} (h : (xs.map (·.t)).Pairwise (· < ·)) : sortS (ltB cmpS) xs = xs := by
  refine (sortS_of swoS ?_ (Stb.refl _)).symm
  rw [List.pairwise_map] at h
  exact h.imp (fun {a b} hab => by rw [ltS]; simp; omega)
theorem fold_withs : ∀ (xs acc : List Seg), (xs.map (·.t)).Pairwise (· < ·) → foldB xs acc (lastW acc) = xs.foldl (fun f x => withF f x.t x.v) acc
  | [], acc, _ => rfl
  | x :: xs, acc, h => by
    rw [List.map_cons, List.pairwise_cons] at h
    have hn : nextB x xs = true := by
      cases xs with
      | nil => rfl
      | cons y xs => have := h.1 y.t (by simp); simp [nextB]; omega
    rw [foldB, if_pos hn, List.foldl_cons]
    have e : (putF acc (lastW acc) x).1 = withF acc x.t x.v ∧ (putF acc (lastW acc) x).2 = lastW (withF acc x.t x.v) := by
      unfold putF withF
      split
      · exact ⟨rfl, rfl⟩
      · exact ⟨by simp, (lastW_snoc _ _).symm⟩
    rw [e.1, e.2]
    exact fold_withs xs _ h.2
theorem rawJ_ok (jf : Vec → Vec → Vec × Int) : ∀ (L : List (Int × Vec × Vec)) (acc : List Seg), (∀ it ∈ L, (jf it.2.1 it.2.2).2 = 0) → rawJ jf L acc = (acc ++ L.map (fun it => ⟨it.1, (jf it.2.1 it.2.2).1⟩), 0)
  | [], acc, _ => by simp [rawJ]
  | it :: L, acc, h => by
    unfold rawJ
    rw [if_pos (h it (by simp)), rawJ_ok jf L _ (fun x hx => h x (by simp [hx]))]
    simp
theorem rawJ_bad (jf : Vec → Vec → Vec × Int) (he : ∀ a b, (jf a b).2 = 0 ∨ (jf a b).2 = 10) : ∀ (L : List (Int × Vec × Vec)) (acc : List Seg), (∃ it ∈ L, ¬ (jf it.2.1 it.2.2).2 = 0) → rawJ jf L acc = ([], 10)
  | [], acc, h => by obtain ⟨t, ht, _⟩ := h; cases ht
  | it :: L, acc, ⟨s, hs, h0⟩ => by
    unfold rawJ
    split
    · rename_i h1
      refine rawJ_bad jf he L _ ⟨s, ?_, h0⟩
      rcases List.mem_cons.1 hs with rfl | hs
      · exact absurd h1 h0
      · exact hs
    · rename_i h1
      rw [(he _ _).resolve_left h1]
/-- What the program makes of two functions is what the document says. -/
theorem made_do (w : Int) (jf : Vec → Vec → Vec × Int) (hj : ∀ a b, mayV a = true → mayV b = true → jf a b = oneR w a b) (he : ∀ a b, (jf a b).2 = 0 ∨ (jf a b).2 = 10) (f g : List Seg) : madeF jf f g = doR w f g := by
  by_cases hfg : (mayF f && mayF g) = true
  case neg =>
    unfold madeF doR
    rw [if_neg hfg, if_neg hfg]
  rw [Bool.and_eq_true] at hfg
  obtain ⟨hf, hg⟩ := hfg
  obtain ⟨cf, sf⟩ := (mayF_iff f).1 hf
  obtain ⟨cg, sg⟩ := (mayF_iff g).1 hg
  have hb := both_times f g cf.up cg.up
  have hts := timesF_up (f.map (·.t) ++ g.map (·.t))
  have hmem : ∀ t, t ∈ timesF (f.map (·.t) ++ g.map (·.t)) → (∃ x ∈ f, x.t = t) ∨ ∃ x ∈ g, x.t = t := fun t => by
    rw [mem_timesF, List.mem_append, List.mem_map, List.mem_map]; exact id
  obtain ⟨ts, hts0⟩ : ∃ ts, timesF (f.map (·.t) ++ g.map (·.t)) = ts := ⟨_, rfl⟩
  rw [hts0] at hb hts
  simp only [hts0] at hmem
  have hjt : ∀ t, jf (atF f t) (atF g t) = oneR w (atF f t) (atF g t) := fun t => hj _ _ (atF_may sf t) (atF_may sg t)
  have hdo : doR w f g = doF w f g ts [] := by unfold doR; rw [hf, hg, hts0]; rfl
  have hmade : madeF jf f g = if (rawJ jf (bothF f g v0 v0) []).2 = 0 then ofF (rawJ jf (bothF f g v0 v0) []).1 else ([], (rawJ jf (bothF f g v0 v0) []).2) := by unfold madeF; rw [hf, hg]; rfl
  rw [hdo, hmade, hb]
  by_cases hall : ∀ t ∈ ts, (oneR w (atF f t) (atF g t)).2 = 0
  · rw [rawJ_ok jf _ [] (fun it hit => by obtain ⟨t, ht, rfl⟩ := List.mem_map.1 hit; rw [show (jf (atF f t) (atF g t)).2 = _ from by rw [hjt]]; exact hall t ht), if_pos rfl, doF_ok w f g ts [] hall]
    simp only [List.nil_append, List.map_map]
    have e : (ts.map ((fun it : Int × Vec × Vec => (⟨it.1, (jf it.2.1 it.2.2).1⟩ : Seg)) ∘ fun t => (t, atF f t, atF g t))) = ts.map (fun t => (⟨t, (oneR w (atF f t) (atF g t)).1⟩ : Seg)) := List.map_congr_left (fun t _ => by simp [hjt])
    rw [e]
    have hup : ((ts.map (fun t => (⟨t, (oneR w (atF f t) (atF g t)).1⟩ : Seg))).map (·.t)).Pairwise (· < ·) := by
      rw [List.map_map]
      have : ((fun x : Seg => x.t) ∘ fun t => (⟨t, (oneR w (atF f t) (atF g t)).1⟩ : Seg)) = id := rfl
      rw [this, List.map_id]; exact hts
    have hin : (ts.map (fun t => (⟨t, (oneR w (atF f t) (atF g t)).1⟩ : Seg))).all inSeg = true := by
      rw [List.all_eq_true]
      intro x hx
      obtain ⟨t, ht, rfl⟩ := List.mem_map.1 hx
      have hm := oneR_may w _ _ (atF_may sf t) (atF_may sg t) (hall t ht)
      have hr : inR t = true := by
        rcases hmem t ht with ⟨y, hy, rfl⟩ | ⟨y, hy, rfl⟩
        · have := sf y hy; unfold inSeg at this; rw [Bool.and_eq_true] at this; exact this.1
        · have := sg y hy; unfold inSeg at this; rw [Bool.and_eq_true] at this; exact this.1
      unfold inSeg; rw [hr, hm]; rfl
    unfold ofF
    rw [if_pos hin]
    have hfold : foldF (ts.map (fun t => (⟨t, (oneR w (atF f t) (atF g t)).1⟩ : Seg))) = withs (fun t => (oneR w (atF f t) (atF g t)).1) ts [] := by
      unfold foldF
      rw [srt_self hup]
      have := fold_withs (ts.map (fun t => (⟨t, (oneR w (atF f t) (atF g t)).1⟩ : Seg))) [] hup
      rw [show lastW [] = v0 from rfl] at this
      rw [this, List.foldl_map]; rfl
    rw [hfold]
  · have hex : ∃ t ∈ ts, ¬ (oneR w (atF f t) (atF g t)).2 = 0 := by
      rcases Classical.em (∃ t ∈ ts, ¬ (oneR w (atF f t) (atF g t)).2 = 0) with h | h
      · exact h
      · exact absurd (fun t ht => Classical.byContradiction fun hn => h ⟨t, ht, hn⟩) hall
    obtain ⟨t, ht, he0⟩ := hex
    rw [rawJ_bad jf he _ [] ⟨(t, atF f t, atF g t), List.mem_map.2 ⟨t, ht, rfl⟩, by simp only; rw [hjt]; exact he0⟩, if_neg (by decide), doF_bad w f g ts [] ⟨t, ht, he0⟩]
end Go.Proofs.Ytddbnncimggogaa.V
end
section
set_option linter.unusedSimpArgs false
set_option linter.unusedVariables false
/- calc.LE, Add are the document's; what being at most says: plain. -/
namespace Go.Proofs.Ytddbnncimggogaa.V
open Go Go.Proofs Go.Proofs.Ytddbnncimggogaa.SP
theorem sub_do (f g : List Seg) : madeF subV f g = doR 1 f g := made_do 1 subV sub_one (fun a b => by unfold subV told1; split <;> simp) f g
theorem told1_err (x : Vec) (l : List Vec) : (told1 x l).2 = 0 ∨ (told1 x l).2 = 10 := by unfold told1; split <;> simp
theorem addF_err : ∀ (l : List Vec) (s : Vec), (addF l s).2 = 0 ∨ (addF l s).2 = 10
  | [], s => .inl rfl
  | v :: r, s => by
    unfold addF
    simp only
    split
    · exact addF_err r _
    · rename_i h; exact .inr ((told1_err _ _).resolve_left h)
theorem add2_err (a b : Vec) : (add2 a b).2 = 0 ∨ (add2 a b).2 = 10 := addF_err _ _
theorem add_do (f g : List Seg) : madeF add2 f g = doR 0 f g := made_do 0 add2 add_one add2_err f g
theorem min_do (f g : List Seg) : madeF (fun a b => (minV a b, 0)) f g = doR 2 f g := made_do 2 _ (fun a b _ _ => by unfold oneR; simp) (fun a b => .inl rfl) f g
theorem max_do (f g : List Seg) : madeF (fun a b => (maxV a b, 0)) f g = doR 3 f g := made_do 3 _ (fun a b _ _ => by unfold oneR; simp) (fun a b => .inl rfl) f g
theorem addG_sum : ∀ (ls : List (List Seg)) (acc : List Seg), addG ls acc = sumF ls acc
  | [], acc => rfl
  | x :: ls, acc => by unfold addG sumF; rw [add_do, addG_sum ls]
theorem addC_sum (ls : List (List Seg)) : addC ls = sumR ls := by unfold addC sumR; rw [addG_sum]
/-! ### Being at most -/
theorem find_insR_no (p : Int → Bool) (x : Int) (hp : p x = false) : ∀ (l : List Int), (insR l x).find? p = l.find? p
  | [] => by simp [insR, hp]
  | y :: l => by
    unfold insR
    split
    · rw [List.find?_cons, List.find?_cons, find_insR_no p x hp l]
    · split
      · rfl
      · rw [List.find?_cons, hp]
theorem find_insR_yes (p : Int → Bool) (x : Int) (hp : p x = true) (hl : ∀ y, y < x → p y = false) : ∀ (l : List Int), (insR l x).find? p = some x
  | [] => by simp [insR, hp]
  | y :: l => by
    unfold insR
    split
    · rename_i h; rw [List.find?_cons, hl y h]; exact find_insR_yes p x hp hl l
    · split
      · rename_i h; rw [List.find?_cons, h, hp]
      · rw [List.find?_cons, hp]
theorem le_do (f g : List Seg) (a : Int) : leC f g a = leR f g a := by
  by_cases hfg : (mayF f && mayF g) = true
  case neg => unfold leC leR; rw [if_neg hfg, if_neg hfg]
  have h2 := hfg
  rw [Bool.and_eq_true] at h2
  obtain ⟨cf, _⟩ := (mayF_iff f).1 h2.1
  obtain ⟨cg, _⟩ := (mayF_iff g).1 h2.2
  unfold leC leR
  rw [if_pos hfg, if_pos hfg, both_times f g cf.up cg.up]
  have hts := timesF_up (f.map (·.t) ++ g.map (·.t))
  obtain ⟨ts, hts0⟩ : ∃ ts, timesF (f.map (·.t) ++ g.map (·.t)) = ts := ⟨_, rfl⟩
  rw [hts0] at hts ⊢
  rw [timesF_snoc, timesF_self hts, insT_R]
  have early : ∀ y, y < a → leHit f g a y = false := fun y hy => by unfold leHit; rw [decide_eq_false (by omega)]; rfl
  cases hle : leV (atF f a) (atF g a) with
  | false =>
    have hp : leHit f g a a = true := by unfold leHit; rw [hle, decide_eq_true (Int.le_refl a)]; rfl
    unfold leFind
    rw [find_insR_yes _ a hp early]; rfl
  | true =>
    have hp : leHit f g a a = false := by unfold leHit; rw [hle]; simp
    unfold leFind leFindI
    rw [find_insR_no _ a hp, if_pos rfl, List.find?_map]
    have e : (hitI a ∘ fun t => (t, atF f t, atF g t)) = leHit f g a := rfl
    rw [e]
    cases ts.find? (leHit f g a) <;> rfl
/-- Either one is at most the other one from then on, or there is a first time at which it is not. -/
theorem leR_law (f g : List Seg) (a : Int) (hf : mayF f = true) (hg : mayF g = true) :
    ((∀ t, a ≤ t → leV (atF f t) (atF g t) = true) ∧ leR f g a = (0, true, 0)) ∨
    ∃ u, a ≤ u ∧ leV (atF f u) (atF g u) = false ∧ (∀ t, a ≤ t → t < u → leV (atF f t) (atF g t) = true) ∧ leR f g a = (u, false, 0) := by
  have hts0 := timesF_up (f.map (·.t) ++ g.map (·.t))
  have hR : leR f g a = leFind (insR (timesF (f.map (·.t) ++ g.map (·.t))) a) (leHit f g a) := by
    unfold leR; rw [hf, hg, timesF_snoc, timesF_self hts0, insT_R]; rfl
  have hus := up_insR _ a hts0
  have hmem : ∀ t, t ∈ insR (timesF (f.map (·.t) ++ g.map (·.t))) a ↔ t = a ∨ ((∃ x ∈ f, x.t = t) ∨ ∃ x ∈ g, x.t = t) := fun t => by
    rw [mem_insR, mem_timesF, List.mem_append, List.mem_map, List.mem_map]
  obtain ⟨us, hu⟩ : ∃ us, insR (timesF (f.map (·.t) ++ g.map (·.t))) a = us := ⟨_, rfl⟩
  rw [hu] at hR hus
  simp only [hu] at hmem
  have key : ∀ u, a ≤ u → ∃ s ∈ us, a ≤ s ∧ s ≤ u ∧ atF f u = atF f s ∧ atF g u = atF g s := fun u hau => by
    rcases lastH_at (fun _ => v0) us v0 u hus with ⟨_, h⟩ | ⟨s, hs, h1, _, h2⟩
    · have := h a ((hmem a).2 (.inl rfl)); omega
    · refine ⟨s, hs, h2 a ((hmem a).2 (.inl rfl)) hau, h1, atF_between f s u h1 (fun x hx hc => ?_), atF_between g s u h1 (fun x hx hc => ?_)⟩
      · have := h2 x.t ((hmem _).2 (.inr (.inl ⟨x, hx, rfl⟩))) hc.2; omega
      · have := h2 x.t ((hmem _).2 (.inr (.inr ⟨x, hx, rfl⟩))) hc.2; omega
  cases hfind : us.find? (leHit f g a) with
  | none =>
    left
    refine ⟨fun t ht => ?_, by rw [hR, leFind, hfind]⟩
    obtain ⟨s, hs, h1, _, e1, e2⟩ := key t ht
    have := List.find?_eq_none.1 hfind s hs
    unfold leHit at this
    rw [decide_eq_true h1] at this
    rw [e1, e2]
    simpa using this
  | some u =>
    right
    have h1 := List.find?_some hfind
    unfold leHit at h1
    rw [Bool.and_eq_true, decide_eq_true_eq, Bool.not_eq_true'] at h1
    refine ⟨u, h1.1, h1.2, fun t ht htu => ?_, by rw [hR, leFind, hfind]⟩
    obtain ⟨s, hs, h3, h4, e1, e2⟩ := key t ht
    rw [e1, e2]
    rw [List.find?_eq_some_iff_getElem] at hfind
    obtain ⟨_, i, hi, hiu, hno⟩ := hfind
    obtain ⟨j, hj, hjs⟩ := List.getElem_of_mem hs
    have hji : j < i := by
      rcases Nat.lt_or_ge j i with h | h
      · exact h
      · exfalso
        rcases Nat.lt_or_ge i j with h5 | h5
        · have := List.pairwise_iff_getElem.1 hus i j hi hj h5
          rw [hiu, hjs] at this; omega
        · have : i = j := by omega
          subst this; rw [hiu] at hjs; omega
    have := hno j hji
    rw [hjs] at this
    unfold leHit at this
    rw [decide_eq_true h3] at this
    simpa using this
end Go.Proofs.Ytddbnncimggogaa.V
end
section
set_option linter.unusedSimpArgs false
set_option linter.unusedVariables false
/- The compiled functions of the package liverylaw03 (printed by Print.lean of this work). -/
namespace Go.Proofs.Ytddbnncimggogaa.V
open Go Go.Proofs
def v_liverylaw03_CalcRange : VFn := ⟨.seq (.reg [⟨some 4, .box (.t 1), none, [], []⟩,
  ⟨some 6, .mov (.c (.bool false)), none, [], []⟩])
(.seq (.seq (.reg [⟨some 17, .mov (.t 0), none, [], []⟩,
  ⟨some 18, .mov (.t 2), none, [], []⟩,
  ⟨some 19, .call 24 [(.t 17), (.t 18)], none, [0, 1], []⟩,
  ⟨some 20, .mov (.t 19), none, [2, 2], []⟩,
  ⟨some 21, .mov (.t 2), some (20, false), [3], []⟩,
  ⟨some 22, .len (.t 21), some (20, false), [4, 3], []⟩,
  ⟨some 23, .bin .gtr (.t 22) (.c (.int .i64 40)), some (20, false), [5, 3], []⟩,
  ⟨some 24, .pick (.t 20) (.c (.bool true)) (.t 23), none, [3, 6], []⟩])
(.cond (.t 24)
  (.seq (.reg [⟨some 25, .call 25 [], none, [], []⟩,
    ⟨some 6, .mov (.t 25), none, [0, 0, 0], []⟩])
  (.ret))
  (.skip)))
(.seq (.reg [⟨some 26, .build [(.int .i64 0), (.int .i64 0)] [(0, 1, (.c (.int .i64 2))), (1, 1, (.c (.int .i64 (-1))))], none, [], []⟩,
  ⟨some 7, .alloc [(.int .i64 0), (.int .i64 0)], none, [], []⟩,
  ⟨none, .store 2 (.t 7) (.t 26), none, [1, 0, 0, 1], []⟩])
(.seq (.seq (.reg [⟨some 27, .mov (.t 2), none, [], []⟩,
  ⟨some 28, .len (.t 27), none, [0], []⟩,
  ⟨some 29, .bin .gtr (.t 28) (.c (.int .i64 0)), none, [1], []⟩])
(.cond (.t 29)
  (.reg [⟨some 30, .mov (.t 2), none, [], []⟩,
    ⟨some 31, .iad 3 (.t 30) (.c (.int .i64 0)), none, [0], []⟩,
    ⟨some 32, .fad 1 (.t 31), none, [1], []⟩,
    ⟨some 33, .load 2 true (.t 32), none, [2], []⟩,
    ⟨none, .store 2 (.t 7) (.t 33), none, [3, 0, 1, 2, 3], []⟩])
  (.skip)))
(.seq (.reg [⟨some 35, .mov (.t 0), none, [], []⟩,
  ⟨some 36, .iaa 2 1 (.t 4) (.c (.int .i64 0)), none, [], []⟩,
  ⟨some 37, .load 1 false (.t 36), none, [1], []⟩,
  ⟨some 38, .iaa 2 1 (.t 4) (.c (.int .i64 1)), none, [], []⟩,
  ⟨some 39, .load 1 false (.t 38), none, [3], []⟩,
  ⟨some 40, .load 2 true (.t 7), none, [], []⟩,
  ⟨some 41, .call 26 [(.t 35), (.t 37), (.t 39), (.t 40)], none, [0, 2, 4, 5], []⟩,
  ⟨some 34, .mov (.t 41), none, [6], []⟩,
  ⟨some 42, .ext (.t 34) 0, none, [7], []⟩,
  ⟨some 43, .ext (.t 34) 1, none, [7], []⟩,
  ⟨some 8, .mov (.t 42), none, [8, 6, 0, 1, 2, 3, 4, 5, 6, 7, 8], []⟩,
  ⟨some 9, .mov (.t 43), none, [9, 10, 0, 1, 2, 3, 4, 5, 6, 7, 8, 9, 10], []⟩])
(.seq (.reg [⟨some 45, .mov (.t 0), none, [], []⟩,
  ⟨some 46, .iaa 2 1 (.t 4) (.c (.int .i64 0)), none, [], []⟩,
  ⟨some 47, .load 1 false (.t 46), none, [1], []⟩,
  ⟨some 48, .iaa 2 1 (.t 4) (.c (.int .i64 1)), none, [], []⟩,
  ⟨some 49, .load 1 false (.t 48), none, [3], []⟩,
  ⟨some 50, .load 2 true (.t 7), none, [], []⟩,
  ⟨some 51, .call 27 [(.t 45), (.t 47), (.t 49), (.t 50)], none, [0, 2, 4, 5], []⟩,
  ⟨some 44, .mov (.t 51), none, [6], []⟩,
  ⟨some 52, .ext (.t 44) 0, none, [7], []⟩,
  ⟨some 53, .ext (.t 44) 1, none, [7], []⟩,
  ⟨some 10, .mov (.t 52), none, [8, 6, 0, 1, 2, 3, 4, 5, 6, 7, 8], []⟩,
  ⟨some 11, .mov (.t 53), none, [9, 10, 0, 1, 2, 3, 4, 5, 6, 7, 8, 9, 10], []⟩])
(.seq (.seq (.reg [⟨some 54, .mov (.t 8), none, [], []⟩,
  ⟨some 55, .mov (.t 10), none, [], []⟩,
  ⟨some 56, .call 21 [(.t 54), (.t 55)], none, [0, 1], []⟩,
  ⟨some 57, .un .not (.t 56), none, [2], []⟩,
  ⟨some 58, .mov (.t 57), none, [3, 2], []⟩,
  ⟨some 59, .mov (.t 9), some (58, false), [4], []⟩,
  ⟨some 60, .mov (.t 11), some (58, false), [4], []⟩,
  ⟨some 61, .bin .neq (.t 59) (.t 60), some (58, false), [5, 6, 4], []⟩,
  ⟨some 62, .pick (.t 58) (.c (.bool true)) (.t 61), none, [4, 7], []⟩])
(.cond (.t 62)
  (.seq (.reg [⟨some 6, .mov (.c (.bool false)), none, [], []⟩])
  (.ret))
  (.skip)))
(.seq (.seq (.reg [⟨some 63, .mov (.t 9), none, [], []⟩,
  ⟨some 64, .bin .neq (.t 63) (.c (.int .i64 0)), none, [0], []⟩])
(.cond (.t 64)
  (.seq (.reg [⟨some 65, .mov (.t 8), none, [], []⟩,
    ⟨some 66, .len (.t 65), none, [0], []⟩,
    ⟨some 67, .bin .eql (.t 66) (.c (.int .i64 0)), none, [1], []⟩,
    ⟨some 68, .mov (.t 67), none, [2], []⟩,
    ⟨some 69, .call 25 [], some (68, true), [3, 3], []⟩,
    ⟨some 70, .pick (.t 68) (.t 69) (.c (.bool false)), none, [3, 4], []⟩,
    ⟨some 6, .mov (.t 70), none, [5, 4, 0, 1, 2, 3, 4, 5], []⟩])
  (.ret))
  (.skip)))
(.seq (.seq (.reg [⟨some 12, .mov (.c (.int .i64 0)), none, [], []⟩])
(.block 0
  (.loop
    (.seq (.seq (.reg [⟨some 71, .mov (.t 12), none, [], []⟩,
      ⟨some 72, .mov (.t 2), none, [], []⟩,
      ⟨some 73, .len (.t 72), none, [1], []⟩,
      ⟨some 74, .bin .lss (.t 71) (.t 73), none, [0, 2], []⟩])
    (.cond (.t 74)
      (.skip)
      (.exit 0)))
    (.seq (.block 1
      (.seq (.reg [⟨some 77, .mov (.t 2), none, [], []⟩,
        ⟨some 78, .mov (.t 12), none, [], []⟩,
        ⟨some 79, .iad 3 (.t 77) (.t 78), none, [0, 1], []⟩,
        ⟨some 80, .fad 0 (.t 79), none, [2], []⟩,
        ⟨some 81, .load 1 false (.t 80), none, [3], []⟩,
        ⟨some 13, .mov (.t 81), none, [4, 0, 1, 2, 3, 4], []⟩])
      (.seq (.reg [⟨some 82, .mov (.t 0), none, [], []⟩,
        ⟨some 83, .mov (.t 13), none, [], []⟩,
        ⟨some 84, .call 28 [(.t 82), (.t 83)], none, [0, 1], []⟩,
        ⟨some 14, .alloc [(.int .i64 0), (.int .i64 0)], none, [], []⟩,
        ⟨none, .store 2 (.t 14) (.t 84), none, [3, 2, 2, 0, 1, 2, 3], []⟩])
      (.seq (.seq (.reg [⟨some 85, .mov (.t 13), none, [], []⟩,
        ⟨some 86, .iaa 2 1 (.t 4) (.c (.int .i64 0)), none, [], []⟩,
        ⟨some 87, .load 1 false (.t 86), none, [1], []⟩,
        ⟨some 88, .bin .geq (.t 85) (.t 87), none, [0, 2], []⟩,
        ⟨some 89, .mov (.t 88), none, [3], []⟩,
        ⟨some 90, .mov (.t 13), some (89, true), [4], []⟩,
        ⟨some 91, .iaa 2 1 (.t 4) (.c (.int .i64 1)), some (89, true), [4], []⟩,
        ⟨some 92, .load 1 false (.t 91), some (89, true), [6, 4], []⟩,
        ⟨some 93, .bin .lss (.t 90) (.t 92), some (89, true), [5, 7, 4], []⟩,
        ⟨some 94, .pick (.t 89) (.t 93) (.c (.bool false)), none, [4, 8], []⟩])
      (.cond (.t 94)
        (.reg [⟨some 96, .load 2 true (.t 14), none, [], []⟩,
          ⟨some 97, .load 2 true (.t 7), none, [], []⟩,
          ⟨some 98, .call 29 [(.t 96), (.t 97)], none, [0, 1], []⟩,
          ⟨some 95, .mov (.t 98), none, [2], []⟩,
          ⟨some 99, .ext (.t 95) 0, none, [3], []⟩,
          ⟨some 100, .ext (.t 95) 1, none, [3], []⟩,
          ⟨none, .store 2 (.t 14) (.t 99), none, [4, 2, 0, 1, 2, 3, 4], []⟩])
        (.skip)))
      (.seq (.dreg [⟨some 101, .mov (.t 8), none, [], []⟩,
        ⟨some 102, .mov (.t 13), none, [], []⟩,
        ⟨some 103, .call 28 [(.t 101), (.t 102)], none, [0, 1], []⟩,
        ⟨some 104, .load 2 true (.t 14), none, [], []⟩,
        ⟨some 105, .eqs true [0, 0] (.t 103) (.t 104), none, [2, 3], []⟩])
      (.cond (.t 105)
        (.seq (.reg [⟨some 6, .mov (.c (.bool false)), none, [], []⟩])
        (.ret))
        (.skip)))))))
    (.reg [⟨some 75, .mov (.t 12), none, [], []⟩,
      ⟨some 76, .bin .add (.t 75) (.c (.int .i64 1)), none, [0], []⟩,
      ⟨some 12, .mov (.t 76), none, [1, 0, 1], []⟩]))))))
(.seq (.reg [⟨some 107, .mov (.t 8), none, [], []⟩,
  ⟨some 108, .iaa 2 1 (.t 4) (.c (.int .i64 0)), none, [], []⟩,
  ⟨some 109, .load 1 false (.t 108), none, [1], []⟩,
  ⟨some 110, .iaa 2 1 (.t 4) (.c (.int .i64 1)), none, [], []⟩,
  ⟨some 111, .load 1 false (.t 110), none, [3], []⟩,
  ⟨some 112, .fad 0 (.t 7), none, [], []⟩,
  ⟨some 113, .load 1 false (.t 112), none, [5], []⟩,
  ⟨some 114, .un .neg (.t 113), none, [6], []⟩,
  ⟨some 115, .fad 1 (.t 7), none, [], []⟩,
  ⟨some 116, .load 1 false (.t 115), none, [8], []⟩,
  ⟨some 117, .un .neg (.t 116), none, [9], []⟩,
  ⟨some 118, .build [(.int .i64 0), (.int .i64 0)] [(0, 1, (.t 114)), (1, 1, (.t 117))], none, [7, 10], []⟩,
  ⟨some 119, .call 26 [(.t 107), (.t 109), (.t 111), (.t 118)], none, [0, 2, 4, 11], []⟩,
  ⟨some 106, .mov (.t 119), none, [12], []⟩,
  ⟨some 120, .ext (.t 106) 0, none, [13], []⟩,
  ⟨some 121, .ext (.t 106) 1, none, [13], []⟩,
  ⟨some 15, .mov (.t 120), none, [14, 12, 0, 1, 2, 3, 4, 5, 6, 7, 8, 9, 10, 11, 12, 13, 14], []⟩,
  ⟨some 16, .mov (.t 121), none, [15, 16, 0, 1, 2, 3, 4, 5, 6, 7, 8, 9, 10, 11, 12, 13, 14, 15, 16], []⟩])
(.seq (.reg [⟨some 122, .mov (.t 8), none, [], []⟩,
  ⟨some 123, .call 30 [(.t 122)], none, [0], []⟩,
  ⟨some 124, .mov (.t 123), none, [1, 1], []⟩,
  ⟨some 125, .mov (.t 16), some (124, true), [2], []⟩,
  ⟨some 126, .bin .eql (.t 125) (.c (.int .i64 0)), some (124, true), [3, 2], []⟩,
  ⟨some 127, .pick (.t 124) (.t 126) (.c (.bool false)), none, [2, 4], []⟩,
  ⟨some 128, .mov (.t 127), none, [5, 2], []⟩,
  ⟨some 129, .mov (.t 15), some (128, true), [6], []⟩,
  ⟨some 130, .mov (.t 0), some (128, true), [6], []⟩,
  ⟨some 131, .call 21 [(.t 129), (.t 130)], some (128, true), [7, 8, 6, 6], []⟩,
  ⟨some 132, .pick (.t 128) (.t 131) (.c (.bool false)), none, [6, 9], []⟩,
  ⟨some 133, .mov (.t 132), none, [10, 9], []⟩,
  ⟨some 134, .call 25 [], some (133, true), [11, 11], []⟩,
  ⟨some 135, .pick (.t 133) (.t 134) (.c (.bool false)), none, [11, 12], []⟩,
  ⟨some 6, .mov (.t 135), none, [13, 12, 0, 1, 2, 3, 4, 5, 6, 7, 8, 9, 10, 11, 12, 13], []⟩])
(.ret))))))))))),
[.t 6], 136⟩
theorem v_liverylaw03_CalcRange_ok : compF Try.prog 6 = some v_liverylaw03_CalcRange := by kernel_rfl
def v_liverylaw03_CalcBack : VFn := ⟨.seq (.reg [⟨some 4, .mov (.c (.bool false)), none, [], []⟩])
(.seq (.seq (.reg [⟨some 19, .mov (.t 0), none, [], []⟩,
  ⟨some 20, .mov (.t 1), none, [], []⟩,
  ⟨some 21, .call 24 [(.t 19), (.t 20)], none, [0, 1], []⟩])
(.cond (.t 21)
  (.seq (.reg [⟨some 22, .call 25 [], none, [], []⟩,
    ⟨some 4, .mov (.t 22), none, [0, 0, 0], []⟩])
  (.ret))
  (.skip)))
(.seq (.reg [⟨some 24, .mov (.t 1), none, [], []⟩,
  ⟨some 25, .mov (.t 0), none, [], []⟩,
  ⟨some 26, .call 33 [(.t 24), (.t 25)], none, [0, 1], []⟩,
  ⟨some 23, .mov (.t 26), none, [2], []⟩,
  ⟨some 27, .ext (.t 23) 0, none, [3], []⟩,
  ⟨some 28, .ext (.t 23) 1, none, [3], []⟩,
  ⟨some 5, .mov (.t 27), none, [4, 2, 0, 1, 2, 3, 4], []⟩,
  ⟨some 6, .mov (.t 28), none, [5, 6, 0, 1, 2, 3, 4, 5, 6], []⟩])
(.seq (.seq (.reg [⟨some 29, .mov (.t 6), none, [], []⟩,
  ⟨some 30, .bin .neq (.t 29) (.c (.int .i64 0)), none, [0], []⟩])
(.cond (.t 30)
  (.seq (.reg [⟨some 31, .mov (.t 6), none, [], []⟩,
    ⟨some 32, .bin .eql (.t 31) (.c (.int .i64 5)), none, [0], []⟩,
    ⟨some 33, .mov (.t 32), none, [1], []⟩,
    ⟨some 34, .mov (.t 6), some (33, false), [2], []⟩,
    ⟨some 35, .bin .eql (.t 34) (.c (.int .i64 10)), some (33, false), [3, 2], []⟩,
    ⟨some 36, .pick (.t 33) (.c (.bool true)) (.t 35), none, [2, 4], []⟩,
    ⟨some 37, .mov (.t 36), none, [5, 2], []⟩,
    ⟨some 38, .call 25 [], some (37, true), [6, 6], []⟩,
    ⟨some 39, .pick (.t 37) (.t 38) (.c (.bool false)), none, [6, 7], []⟩,
    ⟨some 4, .mov (.t 39), none, [8, 7, 0, 1, 2, 3, 4, 5, 6, 7, 8], []⟩])
  (.ret))
  (.skip)))
(.seq (.reg [⟨some 41, .mov (.t 0), none, [], []⟩,
  ⟨some 42, .mov (.t 5), none, [], []⟩,
  ⟨some 43, .bsl 1 [(.t 41), (.t 42)], none, [0, 1], []⟩,
  ⟨some 44, .call 31 [(.t 43)], none, [2], []⟩,
  ⟨some 40, .mov (.t 44), none, [3], []⟩,
  ⟨some 45, .ext (.t 40) 0, none, [4], []⟩,
  ⟨some 46, .ext (.t 40) 1, none, [4], []⟩,
  ⟨some 7, .mov (.t 45), none, [5, 3, 0, 1, 2, 3, 4, 5], []⟩,
  ⟨some 8, .mov (.t 46), none, [6, 7, 0, 1, 2, 3, 4, 5, 6, 7], []⟩])
(.seq (.reg [⟨some 48, .mov (.t 0), none, [], []⟩,
  ⟨some 49, .mov (.t 0), none, [], []⟩,
  ⟨some 50, .call 33 [(.t 48), (.t 49)], none, [0, 1], []⟩,
  ⟨some 47, .mov (.t 50), none, [2], []⟩,
  ⟨some 51, .ext (.t 47) 0, none, [3], []⟩,
  ⟨some 52, .ext (.t 47) 1, none, [3], []⟩,
  ⟨some 9, .mov (.t 51), none, [4, 2, 0, 1, 2, 3, 4], []⟩,
  ⟨some 10, .mov (.t 52), none, [5, 6, 0, 1, 2, 3, 4, 5, 6], []⟩])
(.seq (.reg [⟨some 54, .mov (.t 0), none, [], []⟩,
  ⟨some 55, .mov (.t 1), none, [], []⟩,
  ⟨some 56, .call 35 [(.t 54), (.t 55)], none, [0, 1], []⟩,
  ⟨some 53, .mov (.t 56), none, [2], []⟩,
  ⟨some 57, .ext (.t 53) 0, none, [3], []⟩,
  ⟨some 58, .ext (.t 53) 1, none, [3], []⟩,
  ⟨some 11, .mov (.t 57), none, [4, 2, 0, 1, 2, 3, 4], []⟩,
  ⟨some 12, .mov (.t 58), none, [5, 6, 0, 1, 2, 3, 4, 5, 6], []⟩])
(.seq (.reg [⟨some 60, .mov (.t 0), none, [], []⟩,
  ⟨some 61, .mov (.t 1), none, [], []⟩,
  ⟨some 62, .call 36 [(.t 60), (.t 61)], none, [0, 1], []⟩,
  ⟨some 59, .mov (.t 62), none, [2], []⟩,
  ⟨some 63, .ext (.t 59) 0, none, [3], []⟩,
  ⟨some 64, .ext (.t 59) 1, none, [3], []⟩,
  ⟨some 13, .mov (.t 63), none, [4, 2, 0, 1, 2, 3, 4], []⟩,
  ⟨some 14, .mov (.t 64), none, [5, 6, 0, 1, 2, 3, 4, 5, 6], []⟩])
(.seq (.seq (.reg [⟨some 65, .mov (.t 8), none, [], []⟩,
  ⟨some 66, .bin .neq (.t 65) (.c (.int .i64 0)), none, [0], []⟩,
  ⟨some 67, .mov (.t 66), none, [1], []⟩,
  ⟨some 68, .mov (.t 7), some (67, false), [2], []⟩,
  ⟨some 69, .mov (.t 1), some (67, false), [2], []⟩,
  ⟨some 70, .call 21 [(.t 68), (.t 69)], some (67, false), [3, 4, 2, 2], []⟩,
  ⟨some 71, .un .not (.t 70), some (67, false), [5, 2], []⟩,
  ⟨some 72, .pick (.t 67) (.c (.bool true)) (.t 71), none, [2, 6], []⟩,
  ⟨some 73, .mov (.t 72), none, [7, 5], []⟩,
  ⟨some 74, .mov (.t 10), some (73, false), [8], []⟩,
  ⟨some 75, .bin .neq (.t 74) (.c (.int .i64 0)), some (73, false), [9, 8], []⟩,
  ⟨some 76, .pick (.t 73) (.c (.bool true)) (.t 75), none, [8, 10], []⟩,
  ⟨some 77, .mov (.t 76), none, [11, 8], []⟩,
  ⟨some 78, .mov (.t 9), some (77, false), [12], []⟩,
  ⟨some 79, .len (.t 78), some (77, false), [13, 12], []⟩,
  ⟨some 80, .bin .neq (.t 79) (.c (.int .i64 0)), some (77, false), [14, 12], []⟩,
  ⟨some 81, .pick (.t 77) (.c (.bool true)) (.t 80), none, [12, 15], []⟩,
  ⟨some 82, .mov (.t 81), none, [16, 12], []⟩,
  ⟨some 83, .mov (.t 12), some (82, false), [17], []⟩,
  ⟨some 84, .bin .neq (.t 83) (.c (.int .i64 0)), some (82, false), [18, 17], []⟩,
  ⟨some 85, .pick (.t 82) (.c (.bool true)) (.t 84), none, [17, 19], []⟩,
  ⟨some 86, .mov (.t 85), none, [20, 17], []⟩,
  ⟨some 87, .mov (.t 14), some (86, false), [21], []⟩,
  ⟨some 88, .bin .neq (.t 87) (.c (.int .i64 0)), some (86, false), [22, 21], []⟩,
  ⟨some 89, .pick (.t 86) (.c (.bool true)) (.t 88), none, [21, 23], []⟩])
(.cond (.t 89)
  (.seq (.reg [⟨some 4, .mov (.c (.bool false)), none, [], []⟩])
  (.ret))
  (.skip)))
(.seq (.reg [⟨some 91, .mov (.t 11), none, [], []⟩,
  ⟨some 92, .mov (.t 13), none, [], []⟩,
  ⟨some 93, .bsl 1 [(.t 91), (.t 92)], none, [0, 1], []⟩,
  ⟨some 94, .call 31 [(.t 93)], none, [2], []⟩,
  ⟨some 90, .mov (.t 94), none, [3], []⟩,
  ⟨some 95, .ext (.t 90) 0, none, [4], []⟩,
  ⟨some 96, .ext (.t 90) 1, none, [4], []⟩,
  ⟨some 15, .mov (.t 95), none, [5, 3, 0, 1, 2, 3, 4, 5], []⟩,
  ⟨some 16, .mov (.t 96), none, [6, 7, 0, 1, 2, 3, 4, 5, 6, 7], []⟩])
(.seq (.reg [⟨some 98, .mov (.t 0), none, [], []⟩,
  ⟨some 99, .mov (.t 1), none, [], []⟩,
  ⟨some 100, .bsl 1 [(.t 98), (.t 99)], none, [0, 1], []⟩,
  ⟨some 101, .call 31 [(.t 100)], none, [2], []⟩,
  ⟨some 97, .mov (.t 101), none, [3], []⟩,
  ⟨some 102, .ext (.t 97) 0, none, [4], []⟩,
  ⟨some 103, .ext (.t 97) 1, none, [4], []⟩,
  ⟨some 17, .mov (.t 102), none, [5, 3, 0, 1, 2, 3, 4, 5], []⟩,
  ⟨some 18, .mov (.t 103), none, [6, 7, 0, 1, 2, 3, 4, 5, 6, 7], []⟩])
(.seq (.reg [⟨some 104, .mov (.t 16), none, [], []⟩,
  ⟨some 105, .mov (.t 18), none, [], []⟩,
  ⟨some 106, .bin .eql (.t 104) (.t 105), none, [0, 1], []⟩,
  ⟨some 107, .mov (.t 106), none, [2], []⟩,
  ⟨some 108, .mov (.t 15), some (107, true), [3], []⟩,
  ⟨some 109, .mov (.t 17), some (107, true), [3], []⟩,
  ⟨some 110, .call 21 [(.t 108), (.t 109)], some (107, true), [4, 5, 3, 3], []⟩,
  ⟨some 111, .pick (.t 107) (.t 110) (.c (.bool false)), none, [3, 6], []⟩,
  ⟨some 112, .mov (.t 111), none, [7, 6], []⟩,
  ⟨some 113, .call 25 [], some (112, true), [8, 8], []⟩,
  ⟨some 114, .pick (.t 112) (.t 113) (.c (.bool false)), none, [8, 9], []⟩,
  ⟨some 4, .mov (.t 114), none, [10, 9, 0, 1, 2, 3, 4, 5, 6, 7, 8, 9, 10], []⟩])
(.ret)))))))))))),
[.t 4], 115⟩
theorem v_liverylaw03_CalcBack_ok : compF Try.prog 9 = some v_liverylaw03_CalcBack := by kernel_rfl
def v_liverylaw03_CalcOrder : VFn := ⟨.seq (.reg [⟨some 6, .mov (.c (.bool false)), none, [], []⟩])
(.seq (.seq (.reg [⟨some 36, .mov (.t 0), none, [], []⟩,
  ⟨some 37, .mov (.t 1), none, [], []⟩,
  ⟨some 38, .call 24 [(.t 36), (.t 37)], none, [0, 1], []⟩,
  ⟨some 39, .mov (.t 38), none, [2, 2], []⟩,
  ⟨some 40, .mov (.t 0), some (39, false), [3], []⟩,
  ⟨some 41, .call 30 [(.t 40)], some (39, false), [4, 3, 3], []⟩,
  ⟨some 42, .un .not (.t 41), some (39, false), [5, 3], []⟩,
  ⟨some 43, .pick (.t 39) (.c (.bool true)) (.t 42), none, [3, 6], []⟩,
  ⟨some 44, .mov (.t 43), none, [7, 5], []⟩,
  ⟨some 45, .mov (.t 1), some (44, false), [8], []⟩,
  ⟨some 46, .call 30 [(.t 45)], some (44, false), [9, 8, 8], []⟩,
  ⟨some 47, .un .not (.t 46), some (44, false), [10, 8], []⟩,
  ⟨some 48, .pick (.t 44) (.c (.bool true)) (.t 47), none, [8, 11], []⟩])
(.cond (.t 48)
  (.seq (.reg [⟨some 49, .call 25 [], none, [], []⟩,
    ⟨some 6, .mov (.t 49), none, [0, 0, 0], []⟩])
  (.ret))
  (.skip)))
(.seq (.reg [⟨some 51, .mov (.t 0), none, [], []⟩,
  ⟨some 52, .mov (.t 1), none, [], []⟩,
  ⟨some 53, .call 35 [(.t 51), (.t 52)], none, [0, 1], []⟩,
  ⟨some 50, .mov (.t 53), none, [2], []⟩,
  ⟨some 54, .ext (.t 50) 0, none, [3], []⟩,
  ⟨some 55, .ext (.t 50) 1, none, [3], []⟩,
  ⟨some 7, .mov (.t 54), none, [4, 2, 0, 1, 2, 3, 4], []⟩,
  ⟨some 8, .mov (.t 55), none, [5, 6, 0, 1, 2, 3, 4, 5, 6], []⟩])
(.seq (.reg [⟨some 57, .mov (.t 0), none, [], []⟩,
  ⟨some 58, .mov (.t 1), none, [], []⟩,
  ⟨some 59, .call 36 [(.t 57), (.t 58)], none, [0, 1], []⟩,
  ⟨some 56, .mov (.t 59), none, [2], []⟩,
  ⟨some 60, .ext (.t 56) 0, none, [3], []⟩,
  ⟨some 61, .ext (.t 56) 1, none, [3], []⟩,
  ⟨some 9, .mov (.t 60), none, [4, 2, 0, 1, 2, 3, 4], []⟩,
  ⟨some 10, .mov (.t 61), none, [5, 6, 0, 1, 2, 3, 4, 5, 6], []⟩])
(.seq (.reg [⟨some 63, .mov (.t 7), none, [], []⟩,
  ⟨some 64, .mov (.t 0), none, [], []⟩,
  ⟨some 65, .mov (.t 2), none, [], []⟩,
  ⟨some 66, .call 37 [(.t 63), (.t 64), (.t 65)], none, [0, 1, 2], []⟩,
  ⟨some 62, .mov (.t 66), none, [3], []⟩,
  ⟨some 67, .ext (.t 62) 0, none, [4], []⟩,
  ⟨some 68, .ext (.t 62) 1, none, [4], []⟩,
  ⟨some 69, .ext (.t 62) 2, none, [4], []⟩,
  ⟨some 11, .mov (.t 67), none, [5, 3, 0, 1, 2, 3, 4, 5], []⟩,
  ⟨some 12, .mov (.t 68), none, [6, 8, 0, 1, 2, 3, 4, 5, 6, 8], []⟩,
  ⟨some 13, .mov (.t 69), none, [7, 9, 0, 1, 2, 3, 4, 5, 6, 7, 8, 9], []⟩])
(.seq (.reg [⟨some 71, .mov (.t 7), none, [], []⟩,
  ⟨some 72, .mov (.t 1), none, [], []⟩,
  ⟨some 73, .mov (.t 2), none, [], []⟩,
  ⟨some 74, .call 37 [(.t 71), (.t 72), (.t 73)], none, [0, 1, 2], []⟩,
  ⟨some 70, .mov (.t 74), none, [3], []⟩,
  ⟨some 75, .ext (.t 70) 0, none, [4], []⟩,
  ⟨some 76, .ext (.t 70) 1, none, [4], []⟩,
  ⟨some 77, .ext (.t 70) 2, none, [4], []⟩,
  ⟨some 14, .mov (.t 75), none, [5, 3, 0, 1, 2, 3, 4, 5], []⟩,
  ⟨some 15, .mov (.t 76), none, [6, 8, 0, 1, 2, 3, 4, 5, 6, 8], []⟩,
  ⟨some 16, .mov (.t 77), none, [7, 9, 0, 1, 2, 3, 4, 5, 6, 7, 8, 9], []⟩])
(.seq (.reg [⟨some 79, .mov (.t 0), none, [], []⟩,
  ⟨some 80, .mov (.t 9), none, [], []⟩,
  ⟨some 81, .mov (.t 2), none, [], []⟩,
  ⟨some 82, .call 37 [(.t 79), (.t 80), (.t 81)], none, [0, 1, 2], []⟩,
  ⟨some 78, .mov (.t 82), none, [3], []⟩,
  ⟨some 83, .ext (.t 78) 0, none, [4], []⟩,
  ⟨some 84, .ext (.t 78) 1, none, [4], []⟩,
  ⟨some 85, .ext (.t 78) 2, none, [4], []⟩,
  ⟨some 17, .mov (.t 83), none, [5, 3, 0, 1, 2, 3, 4, 5], []⟩,
  ⟨some 18, .mov (.t 84), none, [6, 8, 0, 1, 2, 3, 4, 5, 6, 8], []⟩,
  ⟨some 19, .mov (.t 85), none, [7, 9, 0, 1, 2, 3, 4, 5, 6, 7, 8, 9], []⟩])
(.seq (.reg [⟨some 87, .mov (.t 1), none, [], []⟩,
  ⟨some 88, .mov (.t 9), none, [], []⟩,
  ⟨some 89, .mov (.t 2), none, [], []⟩,
  ⟨some 90, .call 37 [(.t 87), (.t 88), (.t 89)], none, [0, 1, 2], []⟩,
  ⟨some 86, .mov (.t 90), none, [3], []⟩,
  ⟨some 91, .ext (.t 86) 0, none, [4], []⟩,
  ⟨some 92, .ext (.t 86) 1, none, [4], []⟩,
  ⟨some 93, .ext (.t 86) 2, none, [4], []⟩,
  ⟨some 20, .mov (.t 91), none, [5, 3, 0, 1, 2, 3, 4, 5], []⟩,
  ⟨some 21, .mov (.t 92), none, [6, 8, 0, 1, 2, 3, 4, 5, 6, 8], []⟩,
  ⟨some 22, .mov (.t 93), none, [7, 9, 0, 1, 2, 3, 4, 5, 6, 7, 8, 9], []⟩])
(.seq (.reg [⟨some 95, .mov (.t 7), none, [], []⟩,
  ⟨some 96, .mov (.t 9), none, [], []⟩,
  ⟨some 97, .mov (.t 2), none, [], []⟩,
  ⟨some 98, .call 37 [(.t 95), (.t 96), (.t 97)], none, [0, 1, 2], []⟩,
  ⟨some 94, .mov (.t 98), none, [3], []⟩,
  ⟨some 99, .ext (.t 94) 0, none, [4], []⟩,
  ⟨some 100, .ext (.t 94) 1, none, [4], []⟩,
  ⟨some 101, .ext (.t 94) 2, none, [4], []⟩,
  ⟨some 23, .mov (.t 99), none, [5, 3, 0, 1, 2, 3, 4, 5], []⟩,
  ⟨some 24, .mov (.t 100), none, [6, 8, 0, 1, 2, 3, 4, 5, 6, 8], []⟩,
  ⟨some 25, .mov (.t 101), none, [7, 9, 0, 1, 2, 3, 4, 5, 6, 7, 8, 9], []⟩])
(.seq (.reg [⟨some 103, .mov (.t 0), none, [], []⟩,
  ⟨some 104, .mov (.t 1), none, [], []⟩,
  ⟨some 105, .mov (.t 2), none, [], []⟩,
  ⟨some 106, .call 37 [(.t 103), (.t 104), (.t 105)], none, [0, 1, 2], []⟩,
  ⟨some 102, .mov (.t 106), none, [3], []⟩,
  ⟨some 107, .ext (.t 102) 0, none, [4], []⟩,
  ⟨some 108, .ext (.t 102) 1, none, [4], []⟩,
  ⟨some 109, .ext (.t 102) 2, none, [4], []⟩,
  ⟨some 26, .mov (.t 107), none, [5, 3, 0, 1, 2, 3, 4, 5], []⟩,
  ⟨some 27, .mov (.t 108), none, [6, 8, 0, 1, 2, 3, 4, 5, 6, 8], []⟩,
  ⟨some 28, .mov (.t 109), none, [7, 9, 0, 1, 2, 3, 4, 5, 6, 7, 8, 9], []⟩])
(.seq (.seq (.reg [⟨some 110, .mov (.t 12), none, [], []⟩,
  ⟨some 111, .un .not (.t 110), none, [0], []⟩,
  ⟨some 112, .mov (.t 111), none, [1], []⟩,
  ⟨some 113, .mov (.t 15), some (112, false), [2], []⟩,
  ⟨some 114, .un .not (.t 113), some (112, false), [3, 2], []⟩,
  ⟨some 115, .pick (.t 112) (.c (.bool true)) (.t 114), none, [2, 4], []⟩,
  ⟨some 116, .mov (.t 115), none, [5, 2], []⟩,
  ⟨some 117, .mov (.t 18), some (116, false), [6], []⟩,
  ⟨some 118, .un .not (.t 117), some (116, false), [7, 6], []⟩,
  ⟨some 119, .pick (.t 116) (.c (.bool true)) (.t 118), none, [6, 8], []⟩,
  ⟨some 120, .mov (.t 119), none, [9, 6], []⟩,
  ⟨some 121, .mov (.t 21), some (120, false), [10], []⟩,
  ⟨some 122, .un .not (.t 121), some (120, false), [11, 10], []⟩,
  ⟨some 123, .pick (.t 120) (.c (.bool true)) (.t 122), none, [10, 12], []⟩,
  ⟨some 124, .mov (.t 123), none, [13, 10], []⟩,
  ⟨some 125, .mov (.t 24), some (124, false), [14], []⟩,
  ⟨some 126, .un .not (.t 125), some (124, false), [15, 14], []⟩,
  ⟨some 127, .pick (.t 124) (.c (.bool true)) (.t 126), none, [14, 16], []⟩,
  ⟨some 128, .mov (.t 127), none, [17, 14], []⟩,
  ⟨some 129, .mov (.t 28), some (128, false), [18], []⟩,
  ⟨some 130, .bin .neq (.t 129) (.c (.int .i64 0)), some (128, false), [19, 18], []⟩,
  ⟨some 131, .pick (.t 128) (.c (.bool true)) (.t 130), none, [18, 20], []⟩,
  ⟨some 132, .mov (.t 131), none, [21, 18], []⟩,
  ⟨some 133, .mov (.t 27), some (132, false), [22], []⟩,
  ⟨some 134, .mov (.t 133), some (132, false), [23, 22, 22], []⟩,
  ⟨some 135, .mov (.t 26), some (134, true), [24], []⟩,
  ⟨some 136, .bin .neq (.t 135) (.c (.int .i64 0)), some (134, true), [25, 24], []⟩,
  ⟨some 137, .pick (.t 134) (.t 136) (.c (.bool false)), some (132, false), [24, 26, 22], []⟩,
  ⟨some 138, .pick (.t 132) (.c (.bool true)) (.t 137), none, [22, 27], []⟩])
(.cond (.t 138)
  (.seq (.reg [⟨some 6, .mov (.c (.bool false)), none, [], []⟩])
  (.ret))
  (.skip)))
(.seq (.seq (.reg [⟨some 139, .mov (.t 27), none, [], []⟩])
(.cond (.t 139)
  (.seq (.reg [⟨some 141, .mov (.t 0), none, [], []⟩,
    ⟨some 142, .mov (.t 1), none, [], []⟩,
    ⟨some 143, .call 35 [(.t 141), (.t 142)], none, [0, 1], []⟩,
    ⟨some 140, .mov (.t 143), none, [2], []⟩,
    ⟨some 144, .ext (.t 140) 0, none, [3], []⟩,
    ⟨some 145, .ext (.t 140) 1, none, [3], []⟩,
    ⟨some 29, .mov (.t 144), none, [4, 2, 0, 1, 2, 3, 4], []⟩,
    ⟨some 30, .mov (.t 145), none, [5, 6, 0, 1, 2, 3, 4, 5, 6], []⟩])
  (.seq (.reg [⟨some 147, .mov (.t 0), none, [], []⟩,
    ⟨some 148, .mov (.t 29), none, [], []⟩,
    ⟨some 149, .mov (.t 2), none, [], []⟩,
    ⟨some 150, .call 37 [(.t 147), (.t 148), (.t 149)], none, [0, 1, 2], []⟩,
    ⟨some 146, .mov (.t 150), none, [3], []⟩,
    ⟨some 151, .ext (.t 146) 0, none, [4], []⟩,
    ⟨some 152, .ext (.t 146) 1, none, [4], []⟩,
    ⟨some 153, .ext (.t 146) 2, none, [4], []⟩,
    ⟨some 31, .mov (.t 151), none, [5, 3, 0, 1, 2, 3, 4, 5], []⟩,
    ⟨some 32, .mov (.t 152), none, [6, 8, 0, 1, 2, 3, 4, 5, 6, 8], []⟩,
    ⟨some 33, .mov (.t 153), none, [7, 9, 0, 1, 2, 3, 4, 5, 6, 7, 8, 9], []⟩])
  (.seq (.reg [⟨some 154, .mov (.t 30), none, [], []⟩,
    ⟨some 155, .bin .eql (.t 154) (.c (.int .i64 0)), none, [0], []⟩,
    ⟨some 156, .mov (.t 155), none, [1], []⟩,
    ⟨some 157, .mov (.t 32), some (156, true), [2], []⟩,
    ⟨some 158, .pick (.t 156) (.t 157) (.c (.bool false)), none, [2, 3], []⟩,
    ⟨some 159, .mov (.t 158), none, [4, 2], []⟩,
    ⟨some 160, .call 25 [], some (159, true), [5, 5], []⟩,
    ⟨some 161, .pick (.t 159) (.t 160) (.c (.bool false)), none, [5, 6], []⟩,
    ⟨some 6, .mov (.t 161), none, [7, 6, 0, 1, 2, 3, 4, 5, 6, 7], []⟩])
  (.ret))))
  (.skip)))
(.seq (.seq (.reg [⟨some 162, .mov (.t 26), none, [], []⟩,
  ⟨some 163, .mov (.t 2), none, [], []⟩,
  ⟨some 164, .bin .lss (.t 162) (.t 163), none, [0, 1], []⟩,
  ⟨some 165, .mov (.t 164), none, [2], []⟩,
  ⟨some 166, .mov (.t 0), some (165, false), [3], []⟩,
  ⟨some 167, .mov (.t 26), some (165, false), [3], []⟩,
  ⟨some 168, .call 28 [(.t 166), (.t 167)], some (165, false), [4, 5, 3, 3], []⟩,
  ⟨some 169, .mov (.t 1), some (165, false), [3], []⟩,
  ⟨some 170, .mov (.t 26), some (165, false), [3], []⟩,
  ⟨some 171, .call 28 [(.t 169), (.t 170)], some (165, false), [7, 8, 6, 3], []⟩,
  ⟨some 172, .call 39 [(.t 168), (.t 171)], some (165, false), [6, 9, 9, 3], []⟩,
  ⟨some 173, .pick (.t 165) (.c (.bool true)) (.t 172), none, [3, 10], []⟩])
(.cond (.t 173)
  (.seq (.reg [⟨some 6, .mov (.c (.bool false)), none, [], []⟩])
  (.ret))
  (.skip)))
(.seq (.seq (.reg [⟨some 34, .mov (.c (.int .i64 0)), none, [], []⟩])
(.block 0
  (.loop
    (.seq (.seq (.reg [⟨some 174, .mov (.t 34), none, [], []⟩,
      ⟨some 175, .mov (.t 0), none, [], []⟩,
      ⟨some 176, .len (.t 175), none, [1], []⟩,
      ⟨some 177, .mov (.t 1), none, [], []⟩,
      ⟨some 178, .len (.t 177), none, [3], []⟩,
      ⟨some 179, .bin .add (.t 176) (.t 178), none, [2, 4], []⟩,
      ⟨some 180, .bin .lss (.t 174) (.t 179), none, [0, 5], []⟩])
    (.cond (.t 180)
      (.skip)
      (.exit 0)))
    (.seq (.block 1
      (.seq (.reg [⟨some 183, .mov (.t 2), none, [], []⟩,
        ⟨some 35, .mov (.t 183), none, [0, 0], []⟩])
      (.seq (.seq (.reg [⟨some 184, .mov (.t 34), none, [], []⟩,
        ⟨some 185, .mov (.t 0), none, [], []⟩,
        ⟨some 186, .len (.t 185), none, [1], []⟩,
        ⟨some 187, .bin .lss (.t 184) (.t 186), none, [0, 2], []⟩])
      (.cond (.t 187)
        (.reg [⟨some 188, .mov (.t 0), none, [], []⟩,
          ⟨some 189, .mov (.t 34), none, [], []⟩,
          ⟨some 190, .iad 3 (.t 188) (.t 189), none, [0, 1], []⟩,
          ⟨some 191, .fad 0 (.t 190), none, [2], []⟩,
          ⟨some 192, .load 1 false (.t 191), none, [3], []⟩,
          ⟨some 35, .mov (.t 192), none, [4, 0, 1, 2, 3, 4], []⟩])
        (.reg [⟨some 193, .mov (.t 1), none, [], []⟩,
          ⟨some 194, .mov (.t 34), none, [], []⟩,
          ⟨some 195, .mov (.t 0), none, [], []⟩,
          ⟨some 196, .len (.t 195), none, [2], []⟩,
          ⟨some 197, .bin .sub (.t 194) (.t 196), none, [1, 3], []⟩,
          ⟨some 198, .iad 3 (.t 193) (.t 197), none, [0, 4], []⟩,
          ⟨some 199, .fad 0 (.t 198), none, [5], []⟩,
          ⟨some 200, .load 1 false (.t 199), none, [6], []⟩,
          ⟨some 35, .mov (.t 200), none, [7, 0, 1, 2, 3, 4, 5, 6, 7], []⟩])))
      (.seq (.reg [⟨some 201, .mov (.t 35), none, [], []⟩,
        ⟨some 202, .mov (.t 2), none, [], []⟩,
        ⟨some 203, .bin .geq (.t 201) (.t 202), none, [0, 1], []⟩,
        ⟨some 204, .mov (.t 203), none, [2], []⟩,
        ⟨some 205, .mov (.t 35), some (204, true), [3], []⟩,
        ⟨some 206, .mov (.t 26), some (204, true), [3], []⟩,
        ⟨some 207, .bin .lss (.t 205) (.t 206), some (204, true), [4, 5, 3], []⟩,
        ⟨some 208, .pick (.t 204) (.t 207) (.c (.bool false)), none, [3, 6], []⟩,
        ⟨some 209, .mov (.t 208), none, [7, 3], []⟩,
        ⟨some 210, .mov (.t 0), some (209, true), [8], []⟩,
        ⟨some 211, .mov (.t 35), some (209, true), [8], []⟩,
        ⟨some 212, .call 28 [(.t 210), (.t 211)], some (209, true), [9, 10, 8, 8], []⟩,
        ⟨some 213, .mov (.t 1), some (209, true), [8], []⟩,
        ⟨some 214, .mov (.t 35), some (209, true), [8], []⟩,
        ⟨some 215, .call 28 [(.t 213), (.t 214)], some (209, true), [12, 13, 11, 8], []⟩,
        ⟨some 216, .call 39 [(.t 212), (.t 215)], some (209, true), [11, 14, 14, 8], []⟩,
        ⟨some 217, .un .not (.t 216), some (209, true), [15, 8], []⟩,
        ⟨some 218, .pick (.t 209) (.t 217) (.c (.bool false)), none, [8, 16], []⟩])
      (.cond (.t 218)
        (.seq (.reg [⟨some 6, .mov (.c (.bool false)), none, [], []⟩])
        (.ret))
        (.skip))))))
    (.reg [⟨some 181, .mov (.t 34), none, [], []⟩,
      ⟨some 182, .bin .add (.t 181) (.c (.int .i64 1)), none, [0], []⟩,
      ⟨some 34, .mov (.t 182), none, [1, 0, 1], []⟩]))))))
(.seq (.reg [⟨some 219, .mov (.t 26), none, [], []⟩,
  ⟨some 220, .mov (.t 2), none, [], []⟩,
  ⟨some 221, .bin .eql (.t 219) (.t 220), none, [0, 1], []⟩,
  ⟨some 222, .mov (.t 221), none, [2], []⟩,
  ⟨some 223, .mov (.t 0), some (222, false), [3], []⟩,
  ⟨some 224, .mov (.t 26), some (222, false), [3], []⟩,
  ⟨some 225, .bin .sub (.t 224) (.c (.int .i64 1)), some (222, false), [5, 3], []⟩,
  ⟨some 226, .call 28 [(.t 223), (.t 225)], some (222, false), [4, 6, 3, 3], []⟩,
  ⟨some 227, .mov (.t 1), some (222, false), [3], []⟩,
  ⟨some 228, .mov (.t 26), some (222, false), [3], []⟩,
  ⟨some 229, .bin .sub (.t 228) (.c (.int .i64 1)), some (222, false), [9, 3], []⟩,
  ⟨some 230, .call 28 [(.t 227), (.t 229)], some (222, false), [8, 10, 7, 3], []⟩,
  ⟨some 231, .call 39 [(.t 226), (.t 230)], some (222, false), [7, 11, 11, 3], []⟩,
  ⟨some 232, .pick (.t 222) (.c (.bool true)) (.t 231), none, [3, 12], []⟩,
  ⟨some 233, .mov (.t 232), none, [13, 12], []⟩,
  ⟨some 234, .call 25 [], some (233, true), [14, 14], []⟩,
  ⟨some 235, .pick (.t 233) (.t 234) (.c (.bool false)), none, [14, 15], []⟩,
  ⟨some 6, .mov (.t 235), none, [16, 15, 0, 1, 2, 3, 4, 5, 6, 7, 8, 9, 10, 11, 12, 13, 14, 15, 16], []⟩])
(.ret))))))))))))))),
[.t 6], 236⟩
theorem v_liverylaw03_CalcOrder_ok : compF Try.prog 10 = some v_liverylaw03_CalcOrder := by kernel_rfl
def v_liverylaw03_great : VFn := ⟨.seq (.reg [⟨some 4, .mov (.c (.bool false)), none, [], []⟩])
(.seq (.reg [⟨some 5, .mov (.t 0), none, [], []⟩,
  ⟨some 6, .len (.t 5), none, [0], []⟩,
  ⟨some 7, .bin .gtr (.t 6) (.c (.int .i64 60)), none, [1], []⟩,
  ⟨some 8, .mov (.t 7), none, [2], []⟩,
  ⟨some 9, .mov (.t 1), some (8, false), [3], []⟩,
  ⟨some 10, .len (.t 9), some (8, false), [4, 3], []⟩,
  ⟨some 11, .bin .gtr (.t 10) (.c (.int .i64 60)), some (8, false), [5, 3], []⟩,
  ⟨some 12, .pick (.t 8) (.c (.bool true)) (.t 11), none, [3, 6], []⟩,
  ⟨some 4, .mov (.t 12), none, [7, 3, 0, 1, 2, 3, 4, 5, 6, 7], []⟩])
(.ret)),
[.t 4], 13⟩
theorem v_liverylaw03_great_ok : compF Try.prog 24 = some v_liverylaw03_great := by kernel_rfl
def v_liverylaw03_head : VFn := ⟨.seq (.reg [⟨some 0, .mov (.c (.bool false)), none, [], []⟩])
(.seq (.reg [⟨some 21, .call 62 [(.c (.int .i64 2)), (.c (.int .i64 3)), (.c (.int .i64 1))], none, [], []⟩,
  ⟨some 22, .call 62 [(.c (.int .i64 8)), (.c (.int .i64 0)), (.c (.int .i64 0))], none, [0], []⟩,
  ⟨some 23, .bsl 3 [(.t 21), (.t 22)], none, [0, 1], []⟩,
  ⟨some 24, .call 62 [(.c (.int .i64 5)), (.c (.int .i64 1)), (.c (.int .i64 1))], none, [1], []⟩,
  ⟨some 25, .call 62 [(.c (.int .i64 9)), (.c (.int .i64 0)), (.c (.int .i64 0))], none, [3], []⟩,
  ⟨some 26, .bsl 3 [(.t 24), (.t 25)], none, [3, 4], []⟩,
  ⟨some 1, .mov (.t 23), none, [2, 4, 0, 1, 2], []⟩,
  ⟨some 2, .mov (.t 26), none, [5, 6, 0, 1, 2, 3, 4, 5, 6], []⟩])
(.seq (.reg [⟨some 28, .mov (.t 1), none, [], []⟩,
  ⟨some 29, .mov (.t 2), none, [], []⟩,
  ⟨some 30, .bsl 1 [(.t 28), (.t 29)], none, [0, 1], []⟩,
  ⟨some 31, .call 31 [(.t 30)], none, [2], []⟩,
  ⟨some 27, .mov (.t 31), none, [3], []⟩,
  ⟨some 32, .ext (.t 27) 0, none, [4], []⟩,
  ⟨some 33, .ext (.t 27) 1, none, [4], []⟩,
  ⟨some 3, .mov (.t 32), none, [5, 3, 0, 1, 2, 3, 4, 5], []⟩,
  ⟨some 4, .mov (.t 33), none, [6, 7, 0, 1, 2, 3, 4, 5, 6, 7], []⟩])
(.seq (.reg [⟨some 35, .mov (.t 1), none, [], []⟩,
  ⟨some 36, .mov (.t 1), none, [], []⟩,
  ⟨some 37, .call 33 [(.t 35), (.t 36)], none, [0, 1], []⟩,
  ⟨some 34, .mov (.t 37), none, [2], []⟩,
  ⟨some 38, .ext (.t 34) 0, none, [3], []⟩,
  ⟨some 39, .ext (.t 34) 1, none, [3], []⟩,
  ⟨some 5, .mov (.t 38), none, [4, 2, 0, 1, 2, 3, 4], []⟩,
  ⟨some 6, .mov (.t 39), none, [5, 6, 0, 1, 2, 3, 4, 5, 6], []⟩])
(.seq (.reg [⟨some 41, .mov (.t 1), none, [], []⟩,
  ⟨some 42, .mov (.t 2), none, [], []⟩,
  ⟨some 43, .call 35 [(.t 41), (.t 42)], none, [0, 1], []⟩,
  ⟨some 40, .mov (.t 43), none, [2], []⟩,
  ⟨some 44, .ext (.t 40) 0, none, [3], []⟩,
  ⟨some 45, .ext (.t 40) 1, none, [3], []⟩,
  ⟨some 7, .mov (.t 44), none, [4, 2, 0, 1, 2, 3, 4], []⟩,
  ⟨some 8, .mov (.t 45), none, [5, 6, 0, 1, 2, 3, 4, 5, 6], []⟩])
(.seq (.reg [⟨some 47, .mov (.t 1), none, [], []⟩,
  ⟨some 48, .build [(.int .i64 0), (.int .i64 0)] [(0, 1, (.c (.int .i64 (-3)))), (1, 1, (.c (.int .i64 (-1))))], none, [], []⟩,
  ⟨some 49, .call 26 [(.t 47), (.c (.int .i64 4)), (.c (.int .i64 8)), (.t 48)], none, [0, 1], []⟩,
  ⟨some 46, .mov (.t 49), none, [2], []⟩,
  ⟨some 50, .ext (.t 46) 0, none, [3], []⟩,
  ⟨some 51, .ext (.t 46) 1, none, [3], []⟩,
  ⟨some 9, .mov (.t 50), none, [4, 2, 0, 1, 2, 3, 4], []⟩,
  ⟨some 10, .mov (.t 51), none, [5, 6, 0, 1, 2, 3, 4, 5, 6], []⟩])
(.seq (.reg [⟨some 53, .mov (.t 2), none, [], []⟩,
  ⟨some 54, .mov (.t 1), none, [], []⟩,
  ⟨some 55, .call 37 [(.t 53), (.t 54), (.c (.int .i64 0))], none, [0, 1], []⟩,
  ⟨some 52, .mov (.t 55), none, [2], []⟩,
  ⟨some 56, .ext (.t 52) 0, none, [3], []⟩,
  ⟨some 57, .ext (.t 52) 1, none, [3], []⟩,
  ⟨some 58, .ext (.t 52) 2, none, [3], []⟩,
  ⟨some 11, .mov (.t 56), none, [4, 2, 0, 1, 2, 3, 4], []⟩,
  ⟨some 12, .mov (.t 57), none, [5, 7, 0, 1, 2, 3, 4, 5, 7], []⟩,
  ⟨some 13, .mov (.t 58), none, [6, 8, 0, 1, 2, 3, 4, 5, 6, 7, 8], []⟩])
(.seq (.reg [⟨some 60, .mov (.t 2), none, [], []⟩,
  ⟨some 61, .mov (.t 1), none, [], []⟩,
  ⟨some 62, .call 37 [(.t 60), (.t 61), (.c (.int .i64 9))], none, [0, 1], []⟩,
  ⟨some 59, .mov (.t 62), none, [2], []⟩,
  ⟨some 63, .ext (.t 59) 0, none, [3], []⟩,
  ⟨some 64, .ext (.t 59) 1, none, [3], []⟩,
  ⟨some 65, .ext (.t 59) 2, none, [3], []⟩,
  ⟨some 14, .mov (.t 63), none, [4, 2, 0, 1, 2, 3, 4], []⟩,
  ⟨some 15, .mov (.t 64), none, [5, 7, 0, 1, 2, 3, 4, 5, 7], []⟩,
  ⟨some 16, .mov (.t 65), none, [6, 8, 0, 1, 2, 3, 4, 5, 6, 7, 8], []⟩])
(.seq (.reg [⟨some 67, .mov (.t 1), none, [], []⟩,
  ⟨some 68, .build [(.int .i64 0), (.int .i64 0)] [], none, [], []⟩,
  ⟨some 69, .call 26 [(.t 67), (.c (.int .i64 4)), (.c (.int .i64 3)), (.t 68)], none, [0, 1], []⟩,
  ⟨some 66, .mov (.t 69), none, [2], []⟩,
  ⟨some 70, .ext (.t 66) 0, none, [3], []⟩,
  ⟨some 71, .ext (.t 66) 1, none, [3], []⟩,
  ⟨some 17, .mov (.t 70), none, [4, 2, 0, 1, 2, 3, 4], []⟩,
  ⟨some 18, .mov (.t 71), none, [5, 6, 0, 1, 2, 3, 4, 5, 6], []⟩])
(.seq (.reg [⟨some 73, .mov (.t 2), none, [], []⟩,
  ⟨some 74, .call 62 [(.c (.int .i64 2)), (.c (.int .i64 0)), (.c (.int .i64 0))], none, [], []⟩,
  ⟨some 75, .bsl 3 [(.t 74)], none, [1], []⟩,
  ⟨some 76, .bsl 1 [(.t 73), (.t 75)], none, [0, 2], []⟩,
  ⟨some 77, .call 31 [(.t 76)], none, [3, 1], []⟩,
  ⟨some 72, .mov (.t 77), none, [4], []⟩,
  ⟨some 78, .ext (.t 72) 0, none, [5], []⟩,
  ⟨some 79, .ext (.t 72) 1, none, [5], []⟩,
  ⟨some 19, .mov (.t 78), none, [6, 4, 0, 1, 2, 3, 4, 5, 6], []⟩,
  ⟨some 20, .mov (.t 79), none, [7, 8, 0, 1, 2, 3, 4, 5, 6, 7, 8], []⟩])
(.seq (.reg [⟨some 80, .mov (.t 3), none, [], []⟩,
  ⟨some 81, .call 62 [(.c (.int .i64 2)), (.c (.int .i64 3)), (.c (.int .i64 1))], none, [], []⟩,
  ⟨some 82, .call 62 [(.c (.int .i64 5)), (.c (.int .i64 4)), (.c (.int .i64 2))], none, [1], []⟩,
  ⟨some 83, .call 62 [(.c (.int .i64 8)), (.c (.int .i64 1)), (.c (.int .i64 1))], none, [2], []⟩,
  ⟨some 84, .call 62 [(.c (.int .i64 9)), (.c (.int .i64 0)), (.c (.int .i64 0))], none, [3], []⟩,
  ⟨some 85, .bsl 3 [(.t 81), (.t 82), (.t 83), (.t 84)], none, [1, 2, 3, 4], []⟩,
  ⟨some 86, .call 21 [(.t 80), (.t 85)], none, [0, 5, 4], []⟩,
  ⟨some 87, .mov (.t 86), none, [6, 6], []⟩,
  ⟨some 88, .mov (.t 4), some (87, true), [7], []⟩,
  ⟨some 89, .bin .eql (.t 88) (.c (.int .i64 0)), some (87, true), [8, 7], []⟩,
  ⟨some 90, .pick (.t 87) (.t 89) (.c (.bool false)), none, [7, 9], []⟩,
  ⟨some 91, .mov (.t 90), none, [10, 7], []⟩,
  ⟨some 92, .mov (.t 5), some (91, true), [11], []⟩,
  ⟨some 93, .len (.t 92), some (91, true), [12, 11], []⟩,
  ⟨some 94, .bin .eql (.t 93) (.c (.int .i64 0)), some (91, true), [13, 11], []⟩,
  ⟨some 95, .pick (.t 91) (.t 94) (.c (.bool false)), none, [11, 14], []⟩,
  ⟨some 96, .mov (.t 95), none, [15, 11], []⟩,
  ⟨some 97, .mov (.t 6), some (96, true), [16], []⟩,
  ⟨some 98, .bin .eql (.t 97) (.c (.int .i64 0)), some (96, true), [17, 16], []⟩,
  ⟨some 99, .pick (.t 96) (.t 98) (.c (.bool false)), none, [16, 18], []⟩,
  ⟨some 100, .mov (.t 99), none, [19, 16], []⟩,
  ⟨some 101, .mov (.t 7), some (100, true), [20], []⟩,
  ⟨some 102, .call 62 [(.c (.int .i64 5)), (.c (.int .i64 1)), (.c (.int .i64 1))], some (100, true), [20, 20], []⟩,
  ⟨some 103, .call 62 [(.c (.int .i64 8)), (.c (.int .i64 0)), (.c (.int .i64 0))], some (100, true), [22, 20], []⟩,
  ⟨some 104, .bsl 3 [(.t 102), (.t 103)], some (100, true), [22, 23, 20], []⟩,
  ⟨some 105, .call 21 [(.t 101), (.t 104)], some (100, true), [21, 24, 23, 20], []⟩,
  ⟨some 106, .pick (.t 100) (.t 105) (.c (.bool false)), none, [20, 25], []⟩,
  ⟨some 107, .mov (.t 106), none, [26, 25], []⟩,
  ⟨some 108, .mov (.t 8), some (107, true), [27], []⟩,
  ⟨some 109, .bin .eql (.t 108) (.c (.int .i64 0)), some (107, true), [28, 27], []⟩,
  ⟨some 110, .pick (.t 107) (.t 109) (.c (.bool false)), none, [27, 29], []⟩,
  ⟨some 111, .mov (.t 110), none, [30, 27], []⟩,
  ⟨some 112, .mov (.t 9), some (111, true), [31], []⟩,
  ⟨some 113, .call 62 [(.c (.int .i64 2)), (.c (.int .i64 3)), (.c (.int .i64 1))], some (111, true), [31, 31], []⟩,
  ⟨some 114, .call 62 [(.c (.int .i64 4)), (.c (.int .i64 0)), (.c (.int .i64 0))], some (111, true), [33, 31], []⟩,
  ⟨some 115, .bsl 3 [(.t 113), (.t 114)], some (111, true), [33, 34, 31], []⟩,
  ⟨some 116, .call 21 [(.t 112), (.t 115)], some (111, true), [32, 35, 34, 31], []⟩,
  ⟨some 117, .pick (.t 111) (.t 116) (.c (.bool false)), none, [31, 36], []⟩,
  ⟨some 118, .mov (.t 117), none, [37, 36], []⟩,
  ⟨some 119, .mov (.t 10), some (118, true), [38], []⟩,
  ⟨some 120, .bin .eql (.t 119) (.c (.int .i64 0)), some (118, true), [39, 38], []⟩,
  ⟨some 121, .pick (.t 118) (.t 120) (.c (.bool false)), none, [38, 40], []⟩,
  ⟨some 122, .mov (.t 121), none, [41, 38], []⟩,
  ⟨some 123, .mov (.t 11), some (122, true), [42], []⟩,
  ⟨some 124, .bin .eql (.t 123) (.c (.int .i64 8)), some (122, true), [43, 42], []⟩,
  ⟨some 125, .pick (.t 122) (.t 124) (.c (.bool false)), none, [42, 44], []⟩,
  ⟨some 126, .mov (.t 125), none, [45, 42], []⟩,
  ⟨some 127, .mov (.t 12), some (126, true), [46], []⟩,
  ⟨some 128, .un .not (.t 127), some (126, true), [47, 46], []⟩,
  ⟨some 129, .pick (.t 126) (.t 128) (.c (.bool false)), none, [46, 48], []⟩,
  ⟨some 130, .mov (.t 129), none, [49, 46], []⟩,
  ⟨some 131, .mov (.t 13), some (130, true), [50], []⟩,
  ⟨some 132, .bin .eql (.t 131) (.c (.int .i64 0)), some (130, true), [51, 50], []⟩,
  ⟨some 133, .pick (.t 130) (.t 132) (.c (.bool false)), none, [50, 52], []⟩,
  ⟨some 134, .mov (.t 133), none, [53, 50], []⟩,
  ⟨some 135, .mov (.t 14), some (134, true), [54], []⟩,
  ⟨some 136, .bin .eql (.t 135) (.c (.int .i64 0)), some (134, true), [55, 54], []⟩,
  ⟨some 137, .pick (.t 134) (.t 136) (.c (.bool false)), none, [54, 56], []⟩,
  ⟨some 138, .mov (.t 137), none, [57, 54], []⟩,
  ⟨some 139, .mov (.t 15), some (138, true), [58], []⟩,
  ⟨some 140, .pick (.t 138) (.t 139) (.c (.bool false)), none, [58, 59], []⟩,
  ⟨some 141, .mov (.t 140), none, [60, 58], []⟩,
  ⟨some 142, .mov (.t 16), some (141, true), [61], []⟩,
  ⟨some 143, .bin .eql (.t 142) (.c (.int .i64 0)), some (141, true), [62, 61], []⟩,
  ⟨some 144, .pick (.t 141) (.t 143) (.c (.bool false)), none, [61, 63], []⟩,
  ⟨some 145, .mov (.t 144), none, [64, 61], []⟩,
  ⟨some 146, .mov (.t 18), some (145, true), [65], []⟩,
  ⟨some 147, .bin .eql (.t 146) (.c (.int .i64 2)), some (145, true), [66, 65], []⟩,
  ⟨some 148, .pick (.t 145) (.t 147) (.c (.bool false)), none, [65, 67], []⟩,
  ⟨some 149, .mov (.t 148), none, [68, 65], []⟩,
  ⟨some 150, .mov (.t 20), some (149, true), [69], []⟩,
  ⟨some 151, .bin .eql (.t 150) (.c (.int .i64 5)), some (149, true), [70, 69], []⟩,
  ⟨some 152, .pick (.t 149) (.t 151) (.c (.bool false)), none, [69, 71], []⟩,
  ⟨some 0, .mov (.t 152), none, [72, 69, 0, 1, 2, 3, 4, 5, 6, 7, 8, 9, 10, 11, 12, 13, 14, 15, 16, 17, 18, 19, 20, 21, 22, 23, 24, 25, 26, 27, 28, 29, 30, 31, 32, 33, 34, 35, 36, 37, 38, 39, 40, 41, 42, 43, 44, 45, 46, 47, 48, 49, 50, 51, 52, 53, 54, 55, 56, 57, 58, 59, 60, 61, 62, 63, 64, 65, 66, 67, 68, 69, 70, 71, 72], []⟩])
(.ret))))))))))),
[.t 0], 153⟩
theorem v_liverylaw03_head_ok : compF Try.prog 25 = some v_liverylaw03_head := by kernel_rfl
def v_liverylaw03_seg : VFn := ⟨.seq (.reg [⟨some 6, .alloc [(.int .i64 0), (.int .i64 0), (.int .i64 0)], none, [], []⟩])
(.seq (.reg [⟨some 7, .mov (.t 0), none, [], []⟩,
  ⟨some 8, .mov (.t 1), none, [], []⟩,
  ⟨some 9, .mov (.t 2), none, [], []⟩,
  ⟨some 10, .build [(.int .i64 0), (.int .i64 0)] [(0, 1, (.t 8)), (1, 1, (.t 9))], none, [1, 2], []⟩,
  ⟨some 11, .build [(.int .i64 0), (.int .i64 0), (.int .i64 0)] [(0, 1, (.t 7)), (1, 2, (.t 10))], none, [0, 3], []⟩,
  ⟨none, .store 3 (.t 6) (.t 11), none, [4, 0, 1, 2, 3, 4], []⟩])
(.ret)),
[.c 6 3 true], 12⟩
theorem v_liverylaw03_seg_ok : compF Try.prog 62 = some v_liverylaw03_seg := by kernel_rfl
end Go.Proofs.Ytddbnncimggogaa.V
end
section
set_option linter.unusedSimpArgs false
set_option linter.unusedVariables false
/- liverylaw03.seg, great, head. -/
namespace Go.Proofs.Ytddbnncimggogaa.V
open Go Go.Proofs
set_option maxRecDepth 100000
set_option maxHeartbeats 4000000
theorem seg_3 (t m c : Int) : VPure Try.prog 62 [.int .i64 t, .int .i64 m, .int .i64 c] (.agg [.int .i64 t, .int .i64 m, .int .i64 c]) := by
  refine VPure.of v_liverylaw03_seg_ok (Nat.le_of_ble_eq_true rfl) (fun Z st => ?_)
  simp only [v_liverylaw03_seg, ↓vD, vU, VE.ev, VE.evs, retvs, tupOf, grab, vfill, vbsl, eqCells, eqCell, veqs, veqs1, vmnx, AV.isCell, AV.isUndef, Nat.reduceEqDiff, Nat.reduceAdd, Nat.reduceSub, Nat.reduceLeDiff, Nat.reduceLT, reduceIte, reduceCtorEq, Nat.reduceBEq, k_app, k_slc1]
  (repeat' (first | (simp (config := { maxDischargeDepth := 16 }) only [*, vX, Int.reduceLE, Int.reduceLT, Int.reduceGE, Int.reduceGT, Int.reduceBEq, Int.reduceBNe, Int.reduceAdd, Int.reduceSub, Int.reduceMul, Int.reduceNeg, ↓vD, vU, VE.ev, VE.evs, retvs, tupOf, grab, vfill, vbsl, eqCells, eqCell, veqs, veqs1, vmnx, AV.isCell, AV.isUndef, Nat.reduceEqDiff, Nat.reduceAdd, Nat.reduceSub, Nat.reduceLeDiff, Nat.reduceLT, reduceIte, reduceCtorEq, Nat.reduceBEq]) | (simp (disch := first | assumption | omega | exact Seg.len _ | exact Vec.len _ | exact Leg.len _ | exact num_len _ | exact rowA_len _ | exact rowA_len | exact rowT_len _ | exact rowT_len | exact Seg.len | exact Vec.len | exact Leg.len | exact num_len | exact AV.slen _ _ | rfl) only [vP]) | (with_reducible (first | refine gsnd (fun _ => ?_) (fun _ => ?_) | refine csnd (fun _ => ?_) (fun _ => ?_) | refine gsd (fun _ => ?_) (fun _ => ?_) | refine csd (fun _ => ?_) (fun _ => ?_) | refine gsn (fun _ => ?_) (fun _ => ?_) | refine csn (fun _ => ?_) (fun _ => ?_))) | (with_reducible refine gs (fun _ => ?_) (fun _ => ?_)) | (with_reducible refine cs_ (fun _ => ?_) (fun _ => ?_)) | (with_reducible refine objQ_i (fun _ _ => ?_); (repeat (with_reducible refine imp_i (fun _ => ?_)))) | ((try with_reducible refine appK_a ?_); first | (with_reducible refine appD_F (by refine ⟨?_, ?_, ?_, ?_⟩ <;> (first | assumption | omega | exact St.has_add (by assumption) | (simp only [ins_has]; exact St.has_add (by assumption)) | (simp only [ins_has, fresh_ins, kill_ins, add_ins] at *; exact St.has_add (by assumption)) | (simp only [*, ins_has, has_full, St.has_add]; done) | (simp [-List.map_take, -List.map_drop, or_imp, forall_and, Seg.a, Vec.a, Leg.a, num, okEl, cells_agg, cells_int, cells_sl, cells_bool, AV.isCell]; done) | (simp; omega))) (fun _ _ => ?_)) | (with_reducible refine appD_V (by refine ⟨?_, ?_, ?_, ?_, ?_⟩ <;> (first | assumption | omega | exact St.has_add (by assumption) | (simp only [ins_has]; exact St.has_add (by assumption)) | (simp only [ins_has, fresh_ins, kill_ins, add_ins] at *; exact St.has_add (by assumption)) | (simp only [*, ins_has, has_full, St.has_add]; done) | (simp [-List.map_take, -List.map_drop, or_imp, forall_and, Seg.a, Vec.a, Leg.a, num, okEl, cells_agg, cells_int, cells_sl, cells_bool, AV.isCell]; done) | (simp; omega))) (fun _ _ => ?_))) | (with_reducible refine freshQ_i (fun _ _ => ?_)) | (with_reducible refine nilQ_i (fun _ _ => ?_))))
theorem great_3 (f g : List Seg) (hf : (f.length : Int) ≤ 9223372036854775807) (hg : (g.length : Int) ≤ 9223372036854775807) (t t' : Tok) : VPure Try.prog 24 [.sl (f.map Seg.a) t, .sl (g.map Seg.a) t'] (.bool (decide (60 < f.length) || decide (60 < g.length))) := by
  refine VPure.of v_liverylaw03_great_ok (Nat.le_of_ble_eq_true rfl) (fun Z st => ?_)
  simp only [v_liverylaw03_great, ↓vD, vU, VE.ev, VE.evs, retvs, tupOf, grab, vfill, vbsl, eqCells, eqCell, veqs, veqs1, vmnx, AV.isCell, AV.isUndef, Nat.reduceEqDiff, Nat.reduceAdd, Nat.reduceSub, Nat.reduceLeDiff, Nat.reduceLT, reduceIte, reduceCtorEq, Nat.reduceBEq, k_app, k_slc1]
  (repeat' (first | (simp (config := { maxDischargeDepth := 16 }) only [*, vX, Int.reduceLE, Int.reduceLT, Int.reduceGE, Int.reduceGT, Int.reduceBEq, Int.reduceBNe, Int.reduceAdd, Int.reduceSub, Int.reduceMul, Int.reduceNeg, ↓vD, vU, VE.ev, VE.evs, retvs, tupOf, grab, vfill, vbsl, eqCells, eqCell, veqs, veqs1, vmnx, AV.isCell, AV.isUndef, Nat.reduceEqDiff, Nat.reduceAdd, Nat.reduceSub, Nat.reduceLeDiff, Nat.reduceLT, reduceIte, reduceCtorEq, Nat.reduceBEq]) | (simp (disch := first | assumption | omega | exact Seg.len _ | exact Vec.len _ | exact Leg.len _ | exact num_len _ | exact rowA_len _ | exact rowA_len | exact rowT_len _ | exact rowT_len | exact Seg.len | exact Vec.len | exact Leg.len | exact num_len | exact AV.slen _ _ | rfl) only [vP]) | (with_reducible (first | refine gsnd (fun _ => ?_) (fun _ => ?_) | refine csnd (fun _ => ?_) (fun _ => ?_) | refine gsd (fun _ => ?_) (fun _ => ?_) | refine csd (fun _ => ?_) (fun _ => ?_) | refine gsn (fun _ => ?_) (fun _ => ?_) | refine csn (fun _ => ?_) (fun _ => ?_))) | (with_reducible refine gs (fun _ => ?_) (fun _ => ?_)) | (with_reducible refine cs_ (fun _ => ?_) (fun _ => ?_)) | (with_reducible refine objQ_i (fun _ _ => ?_); (repeat (with_reducible refine imp_i (fun _ => ?_)))) | ((try with_reducible refine appK_a ?_); first | (with_reducible refine appD_F (by refine ⟨?_, ?_, ?_, ?_⟩ <;> (first | assumption | omega | exact St.has_add (by assumption) | (simp only [ins_has]; exact St.has_add (by assumption)) | (simp only [ins_has, fresh_ins, kill_ins, add_ins] at *; exact St.has_add (by assumption)) | (simp only [*, ins_has, has_full, St.has_add]; done) | (simp [-List.map_take, -List.map_drop, or_imp, forall_and, Seg.a, Vec.a, Leg.a, num, okEl, cells_agg, cells_int, cells_sl, cells_bool, AV.isCell]; done) | (simp; omega))) (fun _ _ => ?_)) | (with_reducible refine appD_V (by refine ⟨?_, ?_, ?_, ?_, ?_⟩ <;> (first | assumption | omega | exact St.has_add (by assumption) | (simp only [ins_has]; exact St.has_add (by assumption)) | (simp only [ins_has, fresh_ins, kill_ins, add_ins] at *; exact St.has_add (by assumption)) | (simp only [*, ins_has, has_full, St.has_add]; done) | (simp [-List.map_take, -List.map_drop, or_imp, forall_and, Seg.a, Vec.a, Leg.a, num, okEl, cells_agg, cells_int, cells_sl, cells_bool, AV.isCell]; done) | (simp; omega))) (fun _ _ => ?_))) | (with_reducible refine freshQ_i (fun _ _ => ?_)) | (with_reducible refine nilQ_i (fun _ _ => ?_))))
  (all_goals (first | rfl | (simp_all; done) | (simp_all <;> omega)))
def fA : List Seg := [⟨2, ⟨3, 1⟩⟩, ⟨8, ⟨0, 0⟩⟩]
def gA : List Seg := [⟨5, ⟨1, 1⟩⟩, ⟨9, ⟨0, 0⟩⟩]
def sA : List Seg := [⟨2, ⟨3, 1⟩⟩, ⟨5, ⟨4, 2⟩⟩, ⟨8, ⟨1, 1⟩⟩, ⟨9, ⟨0, 0⟩⟩]
def mA : List Seg := [⟨5, ⟨1, 1⟩⟩, ⟨8, ⟨0, 0⟩⟩]
def rA : List Seg := [⟨2, ⟨3, 1⟩⟩, ⟨4, ⟨0, 0⟩⟩]
def bA : List Seg := [⟨2, ⟨0, 0⟩⟩]
theorem e1 : addC [fA, gA] = (sA, 0) := by rw [addC_sum]; decide
theorem e2 : madeF subV fA fA = ([], 0) := by rw [sub_do]; decide
theorem e3 : madeF (fun a b => (minV a b, 0)) fA gA = (mA, 0) := by rw [min_do]; decide
theorem e4 : rangeC fA 4 8 ⟨-3, -1⟩ = (rA, 0) := by unfold rangeC; rw [add_do]; decide
theorem e5 : leC gA fA 0 = (8, false, 0) := by rw [le_do]; decide
theorem e6 : leC gA fA 9 = (0, true, 0) := by rw [le_do]; decide
theorem e7 : rangeC fA 4 3 ⟨0, 0⟩ = ([], 2) := by unfold rangeC; rw [add_do]; decide
theorem e8 : addC [gA, bA] = ([], 5) := by rw [addC_sum]; decide
theorem head_3 : VPure Try.prog 25 [] (.bool true) := by
  have a1 := Add_c [(fA, .full), (gA, .full)] (by simp) (by simp [fA, gA]) .full
  have a2 := Sub_c fA fA (by simp [fA]) (by simp [fA]) .full .full
  have a3 := Min_c fA gA (by simp [fA]) (by simp [gA]) .full .full
  have a4 := Range_c fA (by simp [fA]) .full 4 8 (-3) (-1)
  have a5 := LE_c gA fA (by simp [gA]) (by simp [fA]) .full .full 0
  have a6 := LE_c gA fA (by simp [gA]) (by simp [fA]) .full .full 9
  have a7 := Range_c fA (by simp [fA]) .full 4 3 0 0
  have a8 := Add_c [(gA, .full), (bA, .full)] (by simp) (by simp [gA, bA]) .full
  have s1 := Same_2 sA sA (by simp [sA]) .no .full
  have s2 := Same_2 mA mA (by simp [mA]) .no .full
  have s3 := Same_2 rA rA (by simp [rA]) .no .full
  have q1 : sameF sA sA = true := by decide
  have q2 : sameF mA mA = true := by decide
  have q3 : sameF rA rA = true := by decide
  rw [q1] at s1
  rw [q2] at s2
  rw [q3] at s3
  clear q1 q2 q3
  simp only [List.map_cons, List.map_nil, rowT, e1] at a1
  simp only [e2] at a2
  simp only [e3] at a3
  simp only [e4] at a4
  simp only [e5] at a5
  simp only [e6] at a6
  simp only [e7] at a7
  simp only [List.map_cons, List.map_nil, rowT, e8] at a8
  simp only [fA, gA, sA, mA, rA, bA, List.map_cons, List.map_nil, Seg.a, num] at a1 a2 a3 a4 a5 a6 a7 a8 s1 s2 s3
  refine VPure.of v_liverylaw03_head_ok (Nat.le_of_ble_eq_true rfl) (fun Z st => ?_)
  simp only [v_liverylaw03_head, ↓vD, vU, VE.ev, VE.evs, retvs, tupOf, grab, vfill, vbsl, eqCells, eqCell, veqs, veqs1, vmnx, AV.isCell, AV.isUndef, Nat.reduceEqDiff, Nat.reduceAdd, Nat.reduceSub, Nat.reduceLeDiff, Nat.reduceLT, reduceIte, reduceCtorEq, Nat.reduceBEq, k_app, k_slc1]
  (repeat' (first | (simp (config := { maxDischargeDepth := 16 }) only [*, vX, Int.reduceLE, Int.reduceLT, Int.reduceGE, Int.reduceGT, Int.reduceBEq, Int.reduceBNe, Int.reduceAdd, Int.reduceSub, Int.reduceMul, Int.reduceNeg, ↓vD, vU, VE.ev, VE.evs, retvs, tupOf, grab, vfill, vbsl, eqCells, eqCell, veqs, veqs1, vmnx, AV.isCell, AV.isUndef, Nat.reduceEqDiff, Nat.reduceAdd, Nat.reduceSub, Nat.reduceLeDiff, Nat.reduceLT, reduceIte, reduceCtorEq, Nat.reduceBEq]) | (simp (disch := first | assumption | omega | exact Seg.len _ | exact Vec.len _ | exact Leg.len _ | exact num_len _ | exact rowA_len _ | exact rowA_len | exact rowT_len _ | exact rowT_len | exact Seg.len | exact Vec.len | exact Leg.len | exact num_len | exact AV.slen _ _ | rfl) only [vP]) | (with_reducible (first | refine gsnd (fun _ => ?_) (fun _ => ?_) | refine csnd (fun _ => ?_) (fun _ => ?_) | refine gsd (fun _ => ?_) (fun _ => ?_) | refine csd (fun _ => ?_) (fun _ => ?_) | refine gsn (fun _ => ?_) (fun _ => ?_) | refine csn (fun _ => ?_) (fun _ => ?_))) | (with_reducible refine gs (fun _ => ?_) (fun _ => ?_)) | (with_reducible refine cs_ (fun _ => ?_) (fun _ => ?_)) | (with_reducible refine objQ_i (fun _ _ => ?_); (repeat (with_reducible refine imp_i (fun _ => ?_)))) | ((try with_reducible refine appK_a ?_); first | (with_reducible refine appD_F (by refine ⟨?_, ?_, ?_, ?_⟩ <;> (first | assumption | omega | exact St.has_add (by assumption) | (simp only [ins_has]; exact St.has_add (by assumption)) | (simp only [ins_has, fresh_ins, kill_ins, add_ins] at *; exact St.has_add (by assumption)) | (simp only [*, ins_has, has_full, St.has_add]; done) | (simp [-List.map_take, -List.map_drop, or_imp, forall_and, Seg.a, Vec.a, Leg.a, num, okEl, cells_agg, cells_int, cells_sl, cells_bool, AV.isCell]; done) | (simp; omega))) (fun _ _ => ?_)) | (with_reducible refine appD_V (by refine ⟨?_, ?_, ?_, ?_, ?_⟩ <;> (first | assumption | omega | exact St.has_add (by assumption) | (simp only [ins_has]; exact St.has_add (by assumption)) | (simp only [ins_has, fresh_ins, kill_ins, add_ins] at *; exact St.has_add (by assumption)) | (simp only [*, ins_has, has_full, St.has_add]; done) | (simp [-List.map_take, -List.map_drop, or_imp, forall_and, Seg.a, Vec.a, Leg.a, num, okEl, cells_agg, cells_int, cells_sl, cells_bool, AV.isCell]; done) | (simp; omega))) (fun _ _ => ?_))) | (with_reducible refine freshQ_i (fun _ _ => ?_)) | (with_reducible refine nilQ_i (fun _ _ => ?_)) | (with_reducible first | refine callH_use (seg_3 _ _ _) ?_ | refine pureQ_use (seg_3 _ _ _) ?_) | (with_reducible first | refine callH_use (a1) ?_ | refine pureQ_use (a1) ?_) | (with_reducible first | refine callH_use (a2) ?_ | refine pureQ_use (a2) ?_) | (with_reducible first | refine callH_use (a3) ?_ | refine pureQ_use (a3) ?_) | (with_reducible first | refine callH_use (a4) ?_ | refine pureQ_use (a4) ?_) | (with_reducible first | refine callH_use (a5) ?_ | refine pureQ_use (a5) ?_) | (with_reducible first | refine callH_use (a6) ?_ | refine pureQ_use (a6) ?_) | (with_reducible first | refine callH_use (a7) ?_ | refine pureQ_use (a7) ?_) | (with_reducible first | refine callH_use (a8) ?_ | refine pureQ_use (a8) ?_) | (with_reducible first | refine callH_use (s1) ?_ | refine pureQ_use (s1) ?_) | (with_reducible first | refine callH_use (s2) ?_ | refine pureQ_use (s2) ?_) | (with_reducible first | refine callH_use (s3) ?_ | refine pureQ_use (s3) ?_)))
end Go.Proofs.Ytddbnncimggogaa.V
end
section
set_option linter.unusedSimpArgs false
set_option linter.unusedVariables false
/- Sums and differences, one against the other: plain. -/
namespace Go.Proofs.Ytddbnncimggogaa.V
open Go Go.Proofs Go.Proofs.Ytddbnncimggogaa.SP
theorem may_canon {f : List Seg} (h : mayF f = true) : Canon f v0 := ((mayF_iff f).1 h).1
theorem may_at {f : List Seg} (h : mayF f = true) (t : Int) : mayV (atF f t) = true := atF_may ((mayF_iff f).1 h).2 t
theorem may_ext {f g : List Seg} (hf : mayF f = true) (hg : mayF g = true) (h : ∀ t, atF f t = atF g t) : f = g := canon_ext f g (may_canon hf) (may_canon hg) h
theorem may_nil : mayF [] = true := rfl
theorem pair_eq {α : Type} {p : α × Int} {a : α} {b : Int} (h1 : p.1 = a) (h2 : p.2 = b) : p = (a, b) := by cases p; simp_all
/-- What a function of two is, by its values. -/
theorem doR_is (w : Int) (f g r : List Seg) (hf : mayF f = true) (hg : mayF g = true) (hr : mayF r = true) (h : ∀ t, oneR w (atF f t) (atF g t) = (atF r t, 0)) : doR w f g = (r, 0) := by
  rcases doR_law w f g hf hg with ⟨_, h2, h3, h4⟩ | ⟨⟨t, ht⟩, _⟩
  · exact pair_eq (may_ext h3 hr (fun t => by rw [h4 t, h t])) h2
  · rw [h t] at ht; exact absurd rfl ht
theorem doR_congr (w w' : Int) (f g f' g' : List Seg) (hf : mayF f = true) (hg : mayF g = true) (hf' : mayF f' = true) (hg' : mayF g' = true) (h : ∀ t, oneR w (atF f t) (atF g t) = oneR w' (atF f' t) (atF g' t)) : doR w f g = doR w' f' g' := by
  rcases doR_law w f g hf hg with ⟨a1, a2, a3, a4⟩ | ⟨⟨t, ht⟩, a2⟩
  · rcases doR_law w' f' g' hf' hg' with ⟨b1, b2, b3, b4⟩ | ⟨⟨t, ht⟩, _⟩
    · have e := may_ext a3 b3 (fun t => by rw [a4 t, b4 t, h t])
      rw [pair_eq e a2, pair_eq rfl b2]
    · rw [← h t, a1 t] at ht; exact absurd rfl ht
  · rcases doR_law w' f' g' hf' hg' with ⟨b1, _⟩ | ⟨_, b2⟩
    · rw [h t, b1 t] at ht; exact absurd rfl ht
    · rw [a2, b2]
theorem doR_err (w : Int) (f g : List Seg) : (doR w f g).2 = 0 ∨ doR w f g = ([], 5) ∨ doR w f g = ([], 10) := by
  by_cases h : (mayF f && mayF g) = true
  · have h2 := h
    rw [Bool.and_eq_true] at h2
    rcases doR_law w f g h2.1 h2.2 with ⟨_, h3, _⟩ | ⟨_, h3⟩
    · exact .inl h3
    · exact .inr (.inr h3)
  · exact .inr (.inl (by unfold doR; rw [if_neg h]))
theorem doR_may {w : Int} {f g : List Seg} (h : (doR w f g).2 = 0) : mayF f = true ∧ mayF g = true ∧ mayF (doR w f g).1 = true ∧ ∀ t, oneR w (atF f t) (atF g t) = (atF (doR w f g).1 t, 0) := by
  by_cases hm : (mayF f && mayF g) = true
  · have h2 := hm
    rw [Bool.and_eq_true] at h2
    rcases doR_law w f g h2.1 h2.2 with ⟨a1, _, a3, a4⟩ | ⟨_, h3⟩
    · exact ⟨h2.1, h2.2, a3, fun t => pair_eq (a4 t).symm (a1 t)⟩
    · rw [h3] at h; cases h
  · unfold doR at h; rw [if_neg hm] at h; cases h
theorem toldF_may {v : Vec} (h : mayV v = true) : toldF v = (v, 0) := by unfold toldF; rw [if_pos h]
/-- Sums and differences of what may be, without bounds of machine numbers. -/
theorem add_val (a b : Vec) (ha : mayV a = true) (hb : mayV b = true) : oneR 0 a b = toldF ⟨a.m + b.m, a.c + b.c⟩ := by
  have h1 := (mayV_iff a).1 ha
  have h2 := (mayV_iff b).1 hb
  unfold oneR addR
  rw [if_pos rfl, if_pos (by rw [ha, hb]; rfl), wr_id (by omega) (by omega), wr_id (by omega) (by omega)]
theorem sub_val (a b : Vec) (ha : mayV a = true) (hb : mayV b = true) : oneR 1 a b = toldF ⟨a.m - b.m, a.c - b.c⟩ := by
  have h1 := (mayV_iff a).1 ha
  have h2 := (mayV_iff b).1 hb
  rw [← sub_one a b ha hb]
  unfold subV
  rw [told1_all _ _ (by simp [ha, hb]), wr_id (by omega) (by omega), wr_id (by omega) (by omega)]
theorem min_val (a b : Vec) : oneR 2 a b = (minV a b, 0) := by unfold oneR; simp
theorem max_val (a b : Vec) : oneR 3 a b = (maxV a b, 0) := by unfold oneR; simp
theorem told_ok {v u : Vec} (h : toldF v = (u, 0)) : v = u ∧ mayV u = true := by
  unfold toldF at h
  split at h
  · rename_i hv; cases h; exact ⟨rfl, hv⟩
  · cases h
theorem do_nil (x : List Seg) (h : mayF x = true) : doR 0 [] x = (x, 0) := doR_is 0 [] x x may_nil h h (fun t => by
  rw [add_val _ _ (by rfl) (may_at h t)]
  have : (⟨(atF [] t).m + (atF x t).m, (atF [] t).c + (atF x t).c⟩ : Vec) = atF x t := by simp [atF, v0]
  rw [this, toldF_may (may_at h t)])
theorem sum_two (x y : List Seg) (hx : mayF x = true) (hy : mayF y = true) : sumR [x, y] = doR 0 x y := by
  unfold sumR
  simp only [List.all_cons, List.all_nil, hx, hy, Bool.and_self, if_true]
  unfold sumF
  rw [do_nil x hx, if_pos rfl]
  unfold sumF
  rcases doR_err 0 x y with h | h | h
  · rw [if_pos h]; unfold sumF; exact (pair_eq rfl h).symm
  · rw [h]; simp
  · rw [h]; simp
theorem vec_eta (v : Vec) : (⟨v.m, v.c⟩ : Vec) = v := by cases v; rfl
theorem back_sum (f g : List Seg) (h : (doR 1 g f).2 = 0) : sumR [f, (doR 1 g f).1] = (g, 0) := by
  obtain ⟨hg, hf, hd, hv⟩ := doR_may h
  rw [sum_two _ _ hf hd]
  refine doR_is 0 f _ g hf hd hg (fun t => ?_)
  have h1 := hv t
  rw [sub_val _ _ (may_at hg t) (may_at hf t)] at h1
  obtain ⟨h2, _⟩ := told_ok h1
  rw [add_val _ _ (may_at hf t) (may_at hd t), ← h2]
  have : (⟨(atF f t).m + ((atF g t).m - (atF f t).m), (atF f t).c + ((atF g t).c - (atF f t).c)⟩ : Vec) = atF g t := by
    rw [← vec_eta (atF g t)]; simp only [Vec.mk.injEq]; omega
  rw [this, toldF_may (may_at hg t)]
theorem none_left (f : List Seg) (hf : mayF f = true) : doR 1 f f = ([], 0) := doR_is 1 f f [] hf hf may_nil (fun t => by
  rw [sub_val _ _ (may_at hf t) (may_at hf t), Int.sub_self, Int.sub_self]; rfl)
theorem min_ok (f g : List Seg) (hf : mayF f = true) (hg : mayF g = true) : (doR 2 f g).2 = 0 ∧ mayF (doR 2 f g).1 = true ∧ ∀ t, atF (doR 2 f g).1 t = minV (atF f t) (atF g t) := by
  rcases doR_law 2 f g hf hg with ⟨_, h2, h3, h4⟩ | ⟨⟨t, ht⟩, _⟩
  · exact ⟨h2, h3, fun t => by rw [h4 t, min_val]⟩
  · rw [min_val] at ht; exact absurd rfl ht
theorem max_ok (f g : List Seg) (hf : mayF f = true) (hg : mayF g = true) : (doR 3 f g).2 = 0 ∧ mayF (doR 3 f g).1 = true ∧ ∀ t, atF (doR 3 f g).1 t = maxV (atF f t) (atF g t) := by
  rcases doR_law 3 f g hf hg with ⟨_, h2, h3, h4⟩ | ⟨⟨t, ht⟩, _⟩
  · exact ⟨h2, h3, fun t => by rw [h4 t, max_val]⟩
  · rw [max_val] at ht; exact absurd rfl ht
theorem low_high (f g : List Seg) (hf : mayF f = true) (hg : mayF g = true) : sumR [(doR 2 f g).1, (doR 3 f g).1] = sumR [f, g] := by
  obtain ⟨_, l2, l3⟩ := min_ok f g hf hg
  obtain ⟨_, m2, m3⟩ := max_ok f g hf hg
  rw [sum_two _ _ l2 m2, sum_two _ _ hf hg]
  refine doR_congr 0 0 _ _ _ _ l2 m2 hf hg (fun t => ?_)
  rw [add_val _ _ (may_at l2 t) (may_at m2 t), add_val _ _ (may_at hf t) (may_at hg t), l3, m3]
  congr 2
  · simp only [minV, maxV]; omega
  · simp only [minV, maxV]; omega
/-! ### At most -/
theorem leV_iff (a b : Vec) : leV a b = true ↔ a.m ≤ b.m ∧ a.c ≤ b.c := by simp [leV]
theorem leR_yes (f g : List Seg) (a : Int) (hf : mayF f = true) (hg : mayF g = true) (h : ∀ t, a ≤ t → leV (atF f t) (atF g t) = true) : leR f g a = (0, true, 0) := by
  rcases leR_law f g a hf hg with ⟨_, h2⟩ | ⟨u, h1, h2, _⟩
  · exact h2
  · rw [h u h1] at h2; cases h2
end Go.Proofs.Ytddbnncimggogaa.V
end
section
set_option linter.unusedSimpArgs false
set_option linter.unusedVariables false
/- CalcBack, walked. -/
namespace Go.Proofs.Ytddbnncimggogaa.V
open Go Go.Proofs
set_option maxRecDepth 100000
set_option maxHeartbeats 4000000
theorem calcBack_v (f : List Seg) (_ : ∀ x ∈ f, wfSeg x) (hf : (f.length : Int) ≤ 9223372036854775807) (g : List Seg) (_ : ∀ x ∈ g, wfSeg x) (hg : (g.length : Int) ≤ 9223372036854775807) :
    VPure Try.prog 9 [.sl (f.map Seg.a) .no, .sl (g.map Seg.a) .no] (.bool true) := by
  have hgr := great_3 f g hf hg .no .no
  refine VPure.of v_liverylaw03_CalcBack_ok (Nat.le_of_ble_eq_true rfl) (fun Z st => ?_)
  by_cases hbig : (decide (60 < f.length) || decide (60 < g.length)) = true
  · rw [hbig] at hgr
    clear hbig
    simp only [v_liverylaw03_CalcBack, ↓vD, vU, VE.ev, VE.evs, retvs, tupOf, grab, vfill, vbsl, eqCells, eqCell, veqs, veqs1, vmnx, AV.isCell, AV.isUndef, Nat.reduceEqDiff, Nat.reduceAdd, Nat.reduceSub, Nat.reduceLeDiff, Nat.reduceLT, reduceIte, reduceCtorEq, Nat.reduceBEq, k_app, k_slc1]
    (repeat' (first | (simp (config := { maxDischargeDepth := 16 }) only [*, vX, Int.reduceLE, Int.reduceLT, Int.reduceGE, Int.reduceGT, Int.reduceBEq, Int.reduceBNe, Int.reduceAdd, Int.reduceSub, Int.reduceMul, Int.reduceNeg, ↓vD, vU, VE.ev, VE.evs, retvs, tupOf, grab, vfill, vbsl, eqCells, eqCell, veqs, veqs1, vmnx, AV.isCell, AV.isUndef, Nat.reduceEqDiff, Nat.reduceAdd, Nat.reduceSub, Nat.reduceLeDiff, Nat.reduceLT, reduceIte, reduceCtorEq, Nat.reduceBEq]) | (simp (disch := first | assumption | omega | exact Seg.len _ | exact Vec.len _ | exact Leg.len _ | exact num_len _ | exact rowA_len _ | exact rowA_len | exact rowT_len _ | exact rowT_len | exact Seg.len | exact Vec.len | exact Leg.len | exact num_len | exact AV.slen _ _ | rfl) only [vP]) | (with_reducible (first | refine gsnd (fun _ => ?_) (fun _ => ?_) | refine csnd (fun _ => ?_) (fun _ => ?_) | refine gsd (fun _ => ?_) (fun _ => ?_) | refine csd (fun _ => ?_) (fun _ => ?_) | refine gsn (fun _ => ?_) (fun _ => ?_) | refine csn (fun _ => ?_) (fun _ => ?_))) | (with_reducible refine gs (fun _ => ?_) (fun _ => ?_)) | (with_reducible refine cs_ (fun _ => ?_) (fun _ => ?_)) | (with_reducible refine objQ_i (fun _ _ => ?_); (repeat (with_reducible refine imp_i (fun _ => ?_)))) | ((try with_reducible refine appK_a ?_); first | (with_reducible refine appD_F (by refine ⟨?_, ?_, ?_, ?_⟩ <;> (first | assumption | omega | exact St.has_add (by assumption) | (simp only [ins_has]; exact St.has_add (by assumption)) | (simp only [ins_has, fresh_ins, kill_ins, add_ins] at *; exact St.has_add (by assumption)) | (simp only [*, ins_has, has_full, St.has_add]; done) | (simp [-List.map_take, -List.map_drop, or_imp, forall_and, Seg.a, Vec.a, Leg.a, num, okEl, cells_agg, cells_int, cells_sl, cells_bool, AV.isCell]; done) | (simp; omega))) (fun _ _ => ?_)) | (with_reducible refine appD_V (by refine ⟨?_, ?_, ?_, ?_, ?_⟩ <;> (first | assumption | omega | exact St.has_add (by assumption) | (simp only [ins_has]; exact St.has_add (by assumption)) | (simp only [ins_has, fresh_ins, kill_ins, add_ins] at *; exact St.has_add (by assumption)) | (simp only [*, ins_has, has_full, St.has_add]; done) | (simp [-List.map_take, -List.map_drop, or_imp, forall_and, Seg.a, Vec.a, Leg.a, num, okEl, cells_agg, cells_int, cells_sl, cells_bool, AV.isCell]; done) | (simp; omega))) (fun _ _ => ?_))) | (with_reducible refine freshQ_i (fun _ _ => ?_)) | (with_reducible refine nilQ_i (fun _ _ => ?_)) | (with_reducible first | refine callH_use (hgr) ?_ | refine pureQ_use (hgr) ?_) | (with_reducible first | refine callH_use (head_3) ?_ | refine pureQ_use (head_3) ?_)))
  · have hb : (decide (60 < f.length) || decide (60 < g.length)) = false := by simpa using hbig
    rw [hb] at hgr
    have hf6 : f.length ≤ 60 := by simp at hb; omega
    have hg6 : g.length ≤ 60 := by simp at hb; omega
    clear hbig hb
    have a0 := Sub_c g f (by omega) (by omega) .no .no
    rw [sub_do] at a0
    rcases doR_err 1 g f with he | he | he
    · obtain ⟨mg, mf, md, _⟩ := doR_may he
      obtain ⟨l1, l2, _⟩ := min_ok f g mf mg
      obtain ⟨m1, m2, _⟩ := max_ok f g mf mg
      have hbs := back_sum f g he
      have hnl := none_left f mf
      have hlh := low_high f g mf mg
      have n1 := doR_len 1 g f
      have n2 := doR_len 2 f g
      have n3 := doR_len 3 f g
      have n4 := doR_len 0 f g
      rw [sum_two f g mf mg] at hlh
      have a1 := Add_c [(f, .no), ((doR 1 g f).1, .no)] (by simp) (by simp; omega) .full
      have a2 := Sub_c f f (by omega) (by omega) .no .no
      have a3 := Min_c f g (by omega) (by omega) .no .no
      have a4 := Max_c f g (by omega) (by omega) .no .no
      have a5 := Add_c [((doR 2 f g).1, .no), ((doR 3 f g).1, .no)] (by simp) (by simp; omega) .full
      have a6 := Add_c [(f, .no), (g, .no)] (by simp) (by simp; omega) .full
      have s1 := Same_2 g g (by omega) .no .no
      have s2 := Same_2 (doR 0 f g).1 (doR 0 f g).1 (by omega) .no .no
      simp only [sameF, beq_self_eq_true] at s1 s2
      simp only [List.map_cons, List.map_nil, addC_sum, rowT, num, hbs] at a1
      rw [sub_do, hnl] at a2
      rw [min_do] at a3
      rw [max_do] at a4
      simp only [List.map_cons, List.map_nil, addC_sum, rowT, num, hlh] at a5
      simp only [List.map_cons, List.map_nil, addC_sum, rowT, num, sum_two f g mf mg] at a6
      simp only [num, List.map_nil, he, l1, m1] at a0 a2 a3 a4
      clear hbs hnl hlh n1 n2 n3 n4 md l2 m2 mf mg l1 m1 he
      obtain ⟨D, h1⟩ : ∃ D, (doR 1 g f).1 = D := ⟨_, rfl⟩
      obtain ⟨lo, h2⟩ : ∃ D, (doR 2 f g).1 = D := ⟨_, rfl⟩
      obtain ⟨hi, h3⟩ : ∃ D, (doR 3 f g).1 = D := ⟨_, rfl⟩
      obtain ⟨S, h4⟩ : ∃ D, doR 0 f g = D := ⟨_, rfl⟩
      rw [h1] at a0 a1
      rw [h2] at a3 a5
      rw [h3] at a4 a5
      rw [h4] at a5 a6 s2
      clear h1 h2 h3 h4 hf6 hg6 hf hg
      simp only [v_liverylaw03_CalcBack, ↓vD, vU, VE.ev, VE.evs, retvs, tupOf, grab, vfill, vbsl, eqCells, eqCell, veqs, veqs1, vmnx, AV.isCell, AV.isUndef, Nat.reduceEqDiff, Nat.reduceAdd, Nat.reduceSub, Nat.reduceLeDiff, Nat.reduceLT, reduceIte, reduceCtorEq, Nat.reduceBEq, k_app, k_slc1]
      (repeat' (first | (simp (config := { maxDischargeDepth := 16 }) only [*, vX, Int.reduceLE, Int.reduceLT, Int.reduceGE, Int.reduceGT, Int.reduceBEq, Int.reduceBNe, Int.reduceAdd, Int.reduceSub, Int.reduceMul, Int.reduceNeg, ↓vD, vU, VE.ev, VE.evs, retvs, tupOf, grab, vfill, vbsl, eqCells, eqCell, veqs, veqs1, vmnx, AV.isCell, AV.isUndef, Nat.reduceEqDiff, Nat.reduceAdd, Nat.reduceSub, Nat.reduceLeDiff, Nat.reduceLT, reduceIte, reduceCtorEq, Nat.reduceBEq]) | (simp (disch := first | assumption | omega | exact Seg.len _ | exact Vec.len _ | exact Leg.len _ | exact num_len _ | exact rowA_len _ | exact rowA_len | exact rowT_len _ | exact rowT_len | exact Seg.len | exact Vec.len | exact Leg.len | exact num_len | exact AV.slen _ _ | rfl) only [vP]) | (with_reducible (first | refine gsnd (fun _ => ?_) (fun _ => ?_) | refine csnd (fun _ => ?_) (fun _ => ?_) | refine gsd (fun _ => ?_) (fun _ => ?_) | refine csd (fun _ => ?_) (fun _ => ?_) | refine gsn (fun _ => ?_) (fun _ => ?_) | refine csn (fun _ => ?_) (fun _ => ?_))) | (with_reducible refine gs (fun _ => ?_) (fun _ => ?_)) | (with_reducible refine cs_ (fun _ => ?_) (fun _ => ?_)) | (with_reducible refine objQ_i (fun _ _ => ?_); (repeat (with_reducible refine imp_i (fun _ => ?_)))) | ((try with_reducible refine appK_a ?_); first | (with_reducible refine appD_F (by refine ⟨?_, ?_, ?_, ?_⟩ <;> (first | assumption | omega | exact St.has_add (by assumption) | (simp only [ins_has]; exact St.has_add (by assumption)) | (simp only [ins_has, fresh_ins, kill_ins, add_ins] at *; exact St.has_add (by assumption)) | (simp only [*, ins_has, has_full, St.has_add]; done) | (simp [-List.map_take, -List.map_drop, or_imp, forall_and, Seg.a, Vec.a, Leg.a, num, okEl, cells_agg, cells_int, cells_sl, cells_bool, AV.isCell]; done) | (simp; omega))) (fun _ _ => ?_)) | (with_reducible refine appD_V (by refine ⟨?_, ?_, ?_, ?_, ?_⟩ <;> (first | assumption | omega | exact St.has_add (by assumption) | (simp only [ins_has]; exact St.has_add (by assumption)) | (simp only [ins_has, fresh_ins, kill_ins, add_ins] at *; exact St.has_add (by assumption)) | (simp only [*, ins_has, has_full, St.has_add]; done) | (simp [-List.map_take, -List.map_drop, or_imp, forall_and, Seg.a, Vec.a, Leg.a, num, okEl, cells_agg, cells_int, cells_sl, cells_bool, AV.isCell]; done) | (simp; omega))) (fun _ _ => ?_))) | (with_reducible refine freshQ_i (fun _ _ => ?_)) | (with_reducible refine nilQ_i (fun _ _ => ?_)) | (with_reducible first | refine callH_use (hgr) ?_ | refine pureQ_use (hgr) ?_) | (with_reducible first | refine callH_use (head_3) ?_ | refine pureQ_use (head_3) ?_) | (with_reducible first | refine callH_use (a0) ?_ | refine pureQ_use (a0) ?_) | (with_reducible first | refine callH_use (a1) ?_ | refine pureQ_use (a1) ?_) | (with_reducible first | refine callH_use (a2) ?_ | refine pureQ_use (a2) ?_) | (with_reducible first | refine callH_use (a3) ?_ | refine pureQ_use (a3) ?_) | (with_reducible first | refine callH_use (a4) ?_ | refine pureQ_use (a4) ?_) | (with_reducible first | refine callH_use (a5) ?_ | refine pureQ_use (a5) ?_) | (with_reducible first | refine callH_use (a6) ?_ | refine pureQ_use (a6) ?_) | (with_reducible first | refine callH_use (s1) ?_ | refine pureQ_use (s1) ?_) | (with_reducible first | refine callH_use (s2) ?_ | refine pureQ_use (s2) ?_)))
    all_goals
      rw [he] at a0
      simp only [num, List.map_nil] at a0
      clear hf6 hg6 hf hg he
      simp only [v_liverylaw03_CalcBack, ↓vD, vU, VE.ev, VE.evs, retvs, tupOf, grab, vfill, vbsl, eqCells, eqCell, veqs, veqs1, vmnx, AV.isCell, AV.isUndef, Nat.reduceEqDiff, Nat.reduceAdd, Nat.reduceSub, Nat.reduceLeDiff, Nat.reduceLT, reduceIte, reduceCtorEq, Nat.reduceBEq, k_app, k_slc1]
      (repeat' (first | (simp (config := { maxDischargeDepth := 16 }) only [*, vX, Int.reduceLE, Int.reduceLT, Int.reduceGE, Int.reduceGT, Int.reduceBEq, Int.reduceBNe, Int.reduceAdd, Int.reduceSub, Int.reduceMul, Int.reduceNeg, ↓vD, vU, VE.ev, VE.evs, retvs, tupOf, grab, vfill, vbsl, eqCells, eqCell, veqs, veqs1, vmnx, AV.isCell, AV.isUndef, Nat.reduceEqDiff, Nat.reduceAdd, Nat.reduceSub, Nat.reduceLeDiff, Nat.reduceLT, reduceIte, reduceCtorEq, Nat.reduceBEq]) | (simp (disch := first | assumption | omega | exact Seg.len _ | exact Vec.len _ | exact Leg.len _ | exact num_len _ | exact rowA_len _ | exact rowA_len | exact rowT_len _ | exact rowT_len | exact Seg.len | exact Vec.len | exact Leg.len | exact num_len | exact AV.slen _ _ | rfl) only [vP]) | (with_reducible (first | refine gsnd (fun _ => ?_) (fun _ => ?_) | refine csnd (fun _ => ?_) (fun _ => ?_) | refine gsd (fun _ => ?_) (fun _ => ?_) | refine csd (fun _ => ?_) (fun _ => ?_) | refine gsn (fun _ => ?_) (fun _ => ?_) | refine csn (fun _ => ?_) (fun _ => ?_))) | (with_reducible refine gs (fun _ => ?_) (fun _ => ?_)) | (with_reducible refine cs_ (fun _ => ?_) (fun _ => ?_)) | (with_reducible refine objQ_i (fun _ _ => ?_); (repeat (with_reducible refine imp_i (fun _ => ?_)))) | ((try with_reducible refine appK_a ?_); first | (with_reducible refine appD_F (by refine ⟨?_, ?_, ?_, ?_⟩ <;> (first | assumption | omega | exact St.has_add (by assumption) | (simp only [ins_has]; exact St.has_add (by assumption)) | (simp only [ins_has, fresh_ins, kill_ins, add_ins] at *; exact St.has_add (by assumption)) | (simp only [*, ins_has, has_full, St.has_add]; done) | (simp [-List.map_take, -List.map_drop, or_imp, forall_and, Seg.a, Vec.a, Leg.a, num, okEl, cells_agg, cells_int, cells_sl, cells_bool, AV.isCell]; done) | (simp; omega))) (fun _ _ => ?_)) | (with_reducible refine appD_V (by refine ⟨?_, ?_, ?_, ?_, ?_⟩ <;> (first | assumption | omega | exact St.has_add (by assumption) | (simp only [ins_has]; exact St.has_add (by assumption)) | (simp only [ins_has, fresh_ins, kill_ins, add_ins] at *; exact St.has_add (by assumption)) | (simp only [*, ins_has, has_full, St.has_add]; done) | (simp [-List.map_take, -List.map_drop, or_imp, forall_and, Seg.a, Vec.a, Leg.a, num, okEl, cells_agg, cells_int, cells_sl, cells_bool, AV.isCell]; done) | (simp; omega))) (fun _ _ => ?_))) | (with_reducible refine freshQ_i (fun _ _ => ?_)) | (with_reducible refine nilQ_i (fun _ _ => ?_)) | (with_reducible first | refine callH_use (hgr) ?_ | refine pureQ_use (hgr) ?_) | (with_reducible first | refine callH_use (head_3) ?_ | refine pureQ_use (head_3) ?_) | (with_reducible first | refine callH_use (a0) ?_ | refine pureQ_use (a0) ?_)))
end Go.Proofs.Ytddbnncimggogaa.V
end
section
set_option linter.unusedSimpArgs false
set_option linter.unusedVariables false
/- CalcOrder, walked. -/
namespace Go.Proofs.Ytddbnncimggogaa.V
open Go Go.Proofs
set_option maxRecDepth 100000
set_option maxHeartbeats 4000000
theorem first_in (f g : List Seg) (hf : mayF f = true) (hg : mayF g = true) (a u : Int) (h1 : a < u) (h2 : leV (atF f u) (atF g u) = false) (h3 : ∀ t, a ≤ t → t < u → leV (atF f t) (atF g t) = true) : inR u = true := by
  have hin : ∀ (l : List Seg), mayF l = true → ∀ x ∈ l, x.t = u → inR u = true := fun l hl x hx e => by
    have := ((mayF_iff l).1 hl).2 x hx
    unfold inSeg at this
    rw [Bool.and_eq_true] at this
    rw [← e]; exact this.1
  refine Classical.byContradiction fun hn => ?_
  have e1 := atF_between f (u - 1) u (by omega) (fun x hx hc => hn (hin f hf x hx (by omega)))
  have e2 := atF_between g (u - 1) u (by omega) (fun x hx hc => hn (hin g hg x hx (by omega)))
  have := h3 (u - 1) (by omega) (by omega)
  rw [← e1, ← e2, h2] at this
  cases this
theorem calcOrder_v (f : List Seg) (_ : ∀ x ∈ f, wfSeg x) (hf : (f.length : Int) ≤ 9223372036854775807) (g : List Seg) (_ : ∀ x ∈ g, wfSeg x) (hg : (g.length : Int) ≤ 9223372036854775807) (a : Int) (ha : I64 a) :
    VPure Try.prog 10 [.sl (f.map Seg.a) .no, .sl (g.map Seg.a) .no, .int .i64 a] (.bool true) := by
  have hgr := great_3 f g hf hg .no .no
  refine VPure.of v_liverylaw03_CalcOrder_ok (Nat.le_of_ble_eq_true rfl) (fun Z st => ?_)
  by_cases hbig : (decide (60 < f.length) || decide (60 < g.length)) = true
  · rw [hbig] at hgr
    clear hbig
    simp only [v_liverylaw03_CalcOrder, ↓vD, vU, VE.ev, VE.evs, retvs, tupOf, grab, vfill, vbsl, eqCells, eqCell, veqs, veqs1, vmnx, AV.isCell, AV.isUndef, Nat.reduceEqDiff, Nat.reduceAdd, Nat.reduceSub, Nat.reduceLeDiff, Nat.reduceLT, reduceIte, reduceCtorEq, Nat.reduceBEq, k_app, k_slc1]
    (repeat' (first | (simp (config := { maxDischargeDepth := 16 }) only [*, vX, Int.reduceLE, Int.reduceLT, Int.reduceGE, Int.reduceGT, Int.reduceBEq, Int.reduceBNe, Int.reduceAdd, Int.reduceSub, Int.reduceMul, Int.reduceNeg, ↓vD, vU, VE.ev, VE.evs, retvs, tupOf, grab, vfill, vbsl, eqCells, eqCell, veqs, veqs1, vmnx, AV.isCell, AV.isUndef, Nat.reduceEqDiff, Nat.reduceAdd, Nat.reduceSub, Nat.reduceLeDiff, Nat.reduceLT, reduceIte, reduceCtorEq, Nat.reduceBEq]) | (simp (disch := first | assumption | omega | exact Seg.len _ | exact Vec.len _ | exact Leg.len _ | exact num_len _ | exact rowA_len _ | exact rowA_len | exact rowT_len _ | exact rowT_len | exact Seg.len | exact Vec.len | exact Leg.len | exact num_len | exact AV.slen _ _ | rfl) only [vP]) | (with_reducible (first | refine gsnd (fun _ => ?_) (fun _ => ?_) | refine csnd (fun _ => ?_) (fun _ => ?_) | refine gsd (fun _ => ?_) (fun _ => ?_) | refine csd (fun _ => ?_) (fun _ => ?_) | refine gsn (fun _ => ?_) (fun _ => ?_) | refine csn (fun _ => ?_) (fun _ => ?_))) | (with_reducible refine gs (fun _ => ?_) (fun _ => ?_)) | (with_reducible refine cs_ (fun _ => ?_) (fun _ => ?_)) | (with_reducible refine objQ_i (fun _ _ => ?_); (repeat (with_reducible refine imp_i (fun _ => ?_)))) | ((try with_reducible refine appK_a ?_); first | (with_reducible refine appD_F (by refine ⟨?_, ?_, ?_, ?_⟩ <;> (first | assumption | omega | exact St.has_add (by assumption) | (simp only [ins_has]; exact St.has_add (by assumption)) | (simp only [ins_has, fresh_ins, kill_ins, add_ins] at *; exact St.has_add (by assumption)) | (simp only [*, ins_has, has_full, St.has_add]; done) | (simp [-List.map_take, -List.map_drop, or_imp, forall_and, Seg.a, Vec.a, Leg.a, num, okEl, cells_agg, cells_int, cells_sl, cells_bool, AV.isCell]; done) | (simp; omega))) (fun _ _ => ?_)) | (with_reducible refine appD_V (by refine ⟨?_, ?_, ?_, ?_, ?_⟩ <;> (first | assumption | omega | exact St.has_add (by assumption) | (simp only [ins_has]; exact St.has_add (by assumption)) | (simp only [ins_has, fresh_ins, kill_ins, add_ins] at *; exact St.has_add (by assumption)) | (simp only [*, ins_has, has_full, St.has_add]; done) | (simp [-List.map_take, -List.map_drop, or_imp, forall_and, Seg.a, Vec.a, Leg.a, num, okEl, cells_agg, cells_int, cells_sl, cells_bool, AV.isCell]; done) | (simp; omega))) (fun _ _ => ?_))) | (with_reducible refine freshQ_i (fun _ _ => ?_)) | (with_reducible refine nilQ_i (fun _ _ => ?_)) | (with_reducible first | refine callH_use (hgr) ?_ | refine pureQ_use (hgr) ?_) | (with_reducible first | refine callH_use (head_3) ?_ | refine pureQ_use (head_3) ?_)))
  have hb : (decide (60 < f.length) || decide (60 < g.length)) = false := by simpa using hbig
  rw [hb] at hgr
  have hf6 : f.length ≤ 60 := by simp at hb; omega
  have hg6 : g.length ≤ 60 := by simp at hb; omega
  clear hbig hb hf hg
  have hmf := May_2 f (by omega) .no
  have hmg := May_2 g (by omega) .no
  cases mf : mayF f with
  | false =>
    rw [mf] at hmf
    clear mf
    simp only [v_liverylaw03_CalcOrder, ↓vD, vU, VE.ev, VE.evs, retvs, tupOf, grab, vfill, vbsl, eqCells, eqCell, veqs, veqs1, vmnx, AV.isCell, AV.isUndef, Nat.reduceEqDiff, Nat.reduceAdd, Nat.reduceSub, Nat.reduceLeDiff, Nat.reduceLT, reduceIte, reduceCtorEq, Nat.reduceBEq, k_app, k_slc1]
    (repeat' (first | (simp (config := { maxDischargeDepth := 16 }) only [*, vX, Int.reduceLE, Int.reduceLT, Int.reduceGE, Int.reduceGT, Int.reduceBEq, Int.reduceBNe, Int.reduceAdd, Int.reduceSub, Int.reduceMul, Int.reduceNeg, ↓vD, vU, VE.ev, VE.evs, retvs, tupOf, grab, vfill, vbsl, eqCells, eqCell, veqs, veqs1, vmnx, AV.isCell, AV.isUndef, Nat.reduceEqDiff, Nat.reduceAdd, Nat.reduceSub, Nat.reduceLeDiff, Nat.reduceLT, reduceIte, reduceCtorEq, Nat.reduceBEq]) | (simp (disch := first | assumption | omega | exact Seg.len _ | exact Vec.len _ | exact Leg.len _ | exact num_len _ | exact rowA_len _ | exact rowA_len | exact rowT_len _ | exact rowT_len | exact Seg.len | exact Vec.len | exact Leg.len | exact num_len | exact AV.slen _ _ | rfl) only [vP]) | (with_reducible (first | refine gsnd (fun _ => ?_) (fun _ => ?_) | refine csnd (fun _ => ?_) (fun _ => ?_) | refine gsd (fun _ => ?_) (fun _ => ?_) | refine csd (fun _ => ?_) (fun _ => ?_) | refine gsn (fun _ => ?_) (fun _ => ?_) | refine csn (fun _ => ?_) (fun _ => ?_))) | (with_reducible refine gs (fun _ => ?_) (fun _ => ?_)) | (with_reducible refine cs_ (fun _ => ?_) (fun _ => ?_)) | (with_reducible refine objQ_i (fun _ _ => ?_); (repeat (with_reducible refine imp_i (fun _ => ?_)))) | ((try with_reducible refine appK_a ?_); first | (with_reducible refine appD_F (by refine ⟨?_, ?_, ?_, ?_⟩ <;> (first | assumption | omega | exact St.has_add (by assumption) | (simp only [ins_has]; exact St.has_add (by assumption)) | (simp only [ins_has, fresh_ins, kill_ins, add_ins] at *; exact St.has_add (by assumption)) | (simp only [*, ins_has, has_full, St.has_add]; done) | (simp [-List.map_take, -List.map_drop, or_imp, forall_and, Seg.a, Vec.a, Leg.a, num, okEl, cells_agg, cells_int, cells_sl, cells_bool, AV.isCell]; done) | (simp; omega))) (fun _ _ => ?_)) | (with_reducible refine appD_V (by refine ⟨?_, ?_, ?_, ?_, ?_⟩ <;> (first | assumption | omega | exact St.has_add (by assumption) | (simp only [ins_has]; exact St.has_add (by assumption)) | (simp only [ins_has, fresh_ins, kill_ins, add_ins] at *; exact St.has_add (by assumption)) | (simp only [*, ins_has, has_full, St.has_add]; done) | (simp [-List.map_take, -List.map_drop, or_imp, forall_and, Seg.a, Vec.a, Leg.a, num, okEl, cells_agg, cells_int, cells_sl, cells_bool, AV.isCell]; done) | (simp; omega))) (fun _ _ => ?_))) | (with_reducible refine freshQ_i (fun _ _ => ?_)) | (with_reducible refine nilQ_i (fun _ _ => ?_)) | (with_reducible first | refine callH_use (hgr) ?_ | refine pureQ_use (hgr) ?_) | (with_reducible first | refine callH_use (head_3) ?_ | refine pureQ_use (head_3) ?_) | (with_reducible first | refine callH_use (hmf) ?_ | refine pureQ_use (hmf) ?_)))
  | true =>
  cases mg : mayF g with
  | false =>
    rw [mf] at hmf
    rw [mg] at hmg
    clear mf mg
    simp only [v_liverylaw03_CalcOrder, ↓vD, vU, VE.ev, VE.evs, retvs, tupOf, grab, vfill, vbsl, eqCells, eqCell, veqs, veqs1, vmnx, AV.isCell, AV.isUndef, Nat.reduceEqDiff, Nat.reduceAdd, Nat.reduceSub, Nat.reduceLeDiff, Nat.reduceLT, reduceIte, reduceCtorEq, Nat.reduceBEq, k_app, k_slc1]
    (repeat' (first | (simp (config := { maxDischargeDepth := 16 }) only [*, vX, Int.reduceLE, Int.reduceLT, Int.reduceGE, Int.reduceGT, Int.reduceBEq, Int.reduceBNe, Int.reduceAdd, Int.reduceSub, Int.reduceMul, Int.reduceNeg, ↓vD, vU, VE.ev, VE.evs, retvs, tupOf, grab, vfill, vbsl, eqCells, eqCell, veqs, veqs1, vmnx, AV.isCell, AV.isUndef, Nat.reduceEqDiff, Nat.reduceAdd, Nat.reduceSub, Nat.reduceLeDiff, Nat.reduceLT, reduceIte, reduceCtorEq, Nat.reduceBEq]) | (simp (disch := first | assumption | omega | exact Seg.len _ | exact Vec.len _ | exact Leg.len _ | exact num_len _ | exact rowA_len _ | exact rowA_len | exact rowT_len _ | exact rowT_len | exact Seg.len | exact Vec.len | exact Leg.len | exact num_len | exact AV.slen _ _ | rfl) only [vP]) | (with_reducible (first | refine gsnd (fun _ => ?_) (fun _ => ?_) | refine csnd (fun _ => ?_) (fun _ => ?_) | refine gsd (fun _ => ?_) (fun _ => ?_) | refine csd (fun _ => ?_) (fun _ => ?_) | refine gsn (fun _ => ?_) (fun _ => ?_) | refine csn (fun _ => ?_) (fun _ => ?_))) | (with_reducible refine gs (fun _ => ?_) (fun _ => ?_)) | (with_reducible refine cs_ (fun _ => ?_) (fun _ => ?_)) | (with_reducible refine objQ_i (fun _ _ => ?_); (repeat (with_reducible refine imp_i (fun _ => ?_)))) | ((try with_reducible refine appK_a ?_); first | (with_reducible refine appD_F (by refine ⟨?_, ?_, ?_, ?_⟩ <;> (first | assumption | omega | exact St.has_add (by assumption) | (simp only [ins_has]; exact St.has_add (by assumption)) | (simp only [ins_has, fresh_ins, kill_ins, add_ins] at *; exact St.has_add (by assumption)) | (simp only [*, ins_has, has_full, St.has_add]; done) | (simp [-List.map_take, -List.map_drop, or_imp, forall_and, Seg.a, Vec.a, Leg.a, num, okEl, cells_agg, cells_int, cells_sl, cells_bool, AV.isCell]; done) | (simp; omega))) (fun _ _ => ?_)) | (with_reducible refine appD_V (by refine ⟨?_, ?_, ?_, ?_, ?_⟩ <;> (first | assumption | omega | exact St.has_add (by assumption) | (simp only [ins_has]; exact St.has_add (by assumption)) | (simp only [ins_has, fresh_ins, kill_ins, add_ins] at *; exact St.has_add (by assumption)) | (simp only [*, ins_has, has_full, St.has_add]; done) | (simp [-List.map_take, -List.map_drop, or_imp, forall_and, Seg.a, Vec.a, Leg.a, num, okEl, cells_agg, cells_int, cells_sl, cells_bool, AV.isCell]; done) | (simp; omega))) (fun _ _ => ?_))) | (with_reducible refine freshQ_i (fun _ _ => ?_)) | (with_reducible refine nilQ_i (fun _ _ => ?_)) | (with_reducible first | refine callH_use (hgr) ?_ | refine pureQ_use (hgr) ?_) | (with_reducible first | refine callH_use (head_3) ?_ | refine pureQ_use (head_3) ?_) | (with_reducible first | refine callH_use (hmf) ?_ | refine pureQ_use (hmf) ?_) | (with_reducible first | refine callH_use (hmg) ?_ | refine pureQ_use (hmg) ?_)))
  | true =>
  obtain ⟨l1, l2, l3⟩ := min_ok f g mf mg
  obtain ⟨m1, m2, m3⟩ := max_ok f g mf mg
  have n2 := doR_len 2 f g
  have n3 := doR_len 3 f g
  have a1 := Min_c f g (by omega) (by omega) .no .no
  have a2 := Max_c f g (by omega) (by omega) .no .no
  have b1 := LE_c (doR 2 f g).1 f (by omega) (by omega) .no .no a
  have b2 := LE_c (doR 2 f g).1 g (by omega) (by omega) .no .no a
  have b3 := LE_c f (doR 3 f g).1 (by omega) (by omega) .no .no a
  have b4 := LE_c g (doR 3 f g).1 (by omega) (by omega) .no .no a
  have b5 := LE_c (doR 2 f g).1 (doR 3 f g).1 (by omega) (by omega) .no .no a
  have b6 := LE_c f g (by omega) (by omega) .no .no a
  have b7 := LE_c f (doR 2 f g).1 (by omega) (by omega) .no .no a
  have c1 := leR_yes (doR 2 f g).1 f a l2 mf (fun t _ => by rw [l3 t, leV_iff]; simp only [minV]; omega)
  have c2 := leR_yes (doR 2 f g).1 g a l2 mg (fun t _ => by rw [l3 t, leV_iff]; simp only [minV]; omega)
  have c3 := leR_yes f (doR 3 f g).1 a mf m2 (fun t _ => by rw [m3 t, leV_iff]; simp only [maxV]; omega)
  have c4 := leR_yes g (doR 3 f g).1 a mg m2 (fun t _ => by rw [m3 t, leV_iff]; simp only [maxV]; omega)
  have c5 := leR_yes (doR 2 f g).1 (doR 3 f g).1 a l2 m2 (fun t _ => by rw [l3 t, m3 t, leV_iff]; simp only [minV, maxV]; omega)
  rw [le_do, c1] at b1
  rw [le_do, c2] at b2
  rw [le_do, c3] at b3
  rw [le_do, c4] at b4
  rw [le_do, c5] at b5
  rw [min_do] at a1
  rw [max_do] at a2
  rw [le_do] at b6 b7
  rw [mf] at hmf
  rw [mg] at hmg
  clear c1 c2 c3 c4 c5 n2 n3 m3
  rcases leR_law f g a mf mg with ⟨hy, hr⟩ | ⟨u, hau, hu, hbef, hr⟩
  · have c7 := leR_yes f (doR 2 f g).1 a mf l2 (fun t ht => by
      have := hy t ht
      rw [leV_iff] at this
      rw [l3 t, leV_iff]; simp only [minV]; omega)
    rw [c7] at b7
    rw [hr] at b6
    simp only [num, l1, m1] at a1 a2 b1 b2 b3 b4 b5 b6 b7
    obtain ⟨lo, h2⟩ : ∃ D, (doR 2 f g).1 = D := ⟨_, rfl⟩
    obtain ⟨hi, h3⟩ : ∃ D, (doR 3 f g).1 = D := ⟨_, rfl⟩
    rw [h2] at a1 b1 b2 b5 b7
    rw [h3] at a2 b3 b4 b5
    clear h2 h3 c7 hr hy l1 l2 l3 m1 m2 mf mg hf6 hg6 ha
    simp only [v_liverylaw03_CalcOrder, ↓vD, vU, VE.ev, VE.evs, retvs, tupOf, grab, vfill, vbsl, eqCells, eqCell, veqs, veqs1, vmnx, AV.isCell, AV.isUndef, Nat.reduceEqDiff, Nat.reduceAdd, Nat.reduceSub, Nat.reduceLeDiff, Nat.reduceLT, reduceIte, reduceCtorEq, Nat.reduceBEq, k_app, k_slc1]
    (repeat' (first | (simp (config := { maxDischargeDepth := 16 }) only [*, vX, Int.reduceLE, Int.reduceLT, Int.reduceGE, Int.reduceGT, Int.reduceBEq, Int.reduceBNe, Int.reduceAdd, Int.reduceSub, Int.reduceMul, Int.reduceNeg, ↓vD, vU, VE.ev, VE.evs, retvs, tupOf, grab, vfill, vbsl, eqCells, eqCell, veqs, veqs1, vmnx, AV.isCell, AV.isUndef, Nat.reduceEqDiff, Nat.reduceAdd, Nat.reduceSub, Nat.reduceLeDiff, Nat.reduceLT, reduceIte, reduceCtorEq, Nat.reduceBEq]) | (simp (disch := first | assumption | omega | exact Seg.len _ | exact Vec.len _ | exact Leg.len _ | exact num_len _ | exact rowA_len _ | exact rowA_len | exact rowT_len _ | exact rowT_len | exact Seg.len | exact Vec.len | exact Leg.len | exact num_len | exact AV.slen _ _ | rfl) only [vP]) | (with_reducible (first | refine gsnd (fun _ => ?_) (fun _ => ?_) | refine csnd (fun _ => ?_) (fun _ => ?_) | refine gsd (fun _ => ?_) (fun _ => ?_) | refine csd (fun _ => ?_) (fun _ => ?_) | refine gsn (fun _ => ?_) (fun _ => ?_) | refine csn (fun _ => ?_) (fun _ => ?_))) | (with_reducible refine gs (fun _ => ?_) (fun _ => ?_)) | (with_reducible refine cs_ (fun _ => ?_) (fun _ => ?_)) | (with_reducible refine objQ_i (fun _ _ => ?_); (repeat (with_reducible refine imp_i (fun _ => ?_)))) | ((try with_reducible refine appK_a ?_); first | (with_reducible refine appD_F (by refine ⟨?_, ?_, ?_, ?_⟩ <;> (first | assumption | omega | exact St.has_add (by assumption) | (simp only [ins_has]; exact St.has_add (by assumption)) | (simp only [ins_has, fresh_ins, kill_ins, add_ins] at *; exact St.has_add (by assumption)) | (simp only [*, ins_has, has_full, St.has_add]; done) | (simp [-List.map_take, -List.map_drop, or_imp, forall_and, Seg.a, Vec.a, Leg.a, num, okEl, cells_agg, cells_int, cells_sl, cells_bool, AV.isCell]; done) | (simp; omega))) (fun _ _ => ?_)) | (with_reducible refine appD_V (by refine ⟨?_, ?_, ?_, ?_, ?_⟩ <;> (first | assumption | omega | exact St.has_add (by assumption) | (simp only [ins_has]; exact St.has_add (by assumption)) | (simp only [ins_has, fresh_ins, kill_ins, add_ins] at *; exact St.has_add (by assumption)) | (simp only [*, ins_has, has_full, St.has_add]; done) | (simp [-List.map_take, -List.map_drop, or_imp, forall_and, Seg.a, Vec.a, Leg.a, num, okEl, cells_agg, cells_int, cells_sl, cells_bool, AV.isCell]; done) | (simp; omega))) (fun _ _ => ?_))) | (with_reducible refine freshQ_i (fun _ _ => ?_)) | (with_reducible refine nilQ_i (fun _ _ => ?_)) | (with_reducible first | refine callH_use (hgr) ?_ | refine pureQ_use (hgr) ?_) | (with_reducible first | refine callH_use (head_3) ?_ | refine pureQ_use (head_3) ?_) | (with_reducible first | refine callH_use (hmf) ?_ | refine pureQ_use (hmf) ?_) | (with_reducible first | refine callH_use (hmg) ?_ | refine pureQ_use (hmg) ?_) | (with_reducible first | refine callH_use (a1) ?_ | refine pureQ_use (a1) ?_) | (with_reducible first | refine callH_use (a2) ?_ | refine pureQ_use (a2) ?_) | (with_reducible first | refine callH_use (b1) ?_ | refine pureQ_use (b1) ?_) | (with_reducible first | refine callH_use (b2) ?_ | refine pureQ_use (b2) ?_) | (with_reducible first | refine callH_use (b3) ?_ | refine pureQ_use (b3) ?_) | (with_reducible first | refine callH_use (b4) ?_ | refine pureQ_use (b4) ?_) | (with_reducible first | refine callH_use (b5) ?_ | refine pureQ_use (b5) ?_) | (with_reducible first | refine callH_use (b6) ?_ | refine pureQ_use (b6) ?_) | (with_reducible first | refine callH_use (b7) ?_ | refine pureQ_use (b7) ?_)))
  · rw [hr] at b6
    simp only [num, l1, m1] at a1 a2 b1 b2 b3 b4 b5 b6
    have hw : IntKind.i64.wrap (u - 1) = u - 1 ∨ u = a := by
      rcases Int.lt_or_le a u with h | h
      · have := (inR_iff u).1 (first_in f g mf mg a u h hu hbef)
        exact .inl (wrap_i64 _ (by omega) (by omega))
      · exact .inr (by omega)
    have hu2 : (decide ((atF f u).m ≤ (atF g u).m) && decide ((atF f u).c ≤ (atF g u).c)) = false := hu
    have hbef2 : ∀ t, a ≤ t → t < u → (decide ((atF f t).m ≤ (atF g t).m) && decide ((atF f t).c ≤ (atF g t).c)) = true := hbef
    obtain ⟨lo, h2⟩ : ∃ D, (doR 2 f g).1 = D := ⟨_, rfl⟩
    obtain ⟨hi, h3⟩ : ∃ D, (doR 3 f g).1 = D := ⟨_, rfl⟩
    rw [h2] at a1 b1 b2 b5
    rw [h3] at a2 b3 b4 b5
    have hA := fun t => At_2 f (by omega) .no t
    have hB := fun t => At_2 g (by omega) .no t
    simp only [num] at hA hB
    have HW := Hid.mk hw
    clear h2 h3 hr hbef hu l1 l2 l3 m1 m2 mf mg b7 ha hw
    simp only [v_liverylaw03_CalcOrder, ↓vD, vU, VE.ev, VE.evs, retvs, tupOf, grab, vfill, vbsl, eqCells, eqCell, veqs, veqs1, vmnx, AV.isCell, AV.isUndef, Nat.reduceEqDiff, Nat.reduceAdd, Nat.reduceSub, Nat.reduceLeDiff, Nat.reduceLT, reduceIte, reduceCtorEq, Nat.reduceBEq, k_app, k_slc1]
    (repeat' (first | (simp (config := { maxDischargeDepth := 16 }) only [*, vX, Int.reduceLE, Int.reduceLT, Int.reduceGE, Int.reduceGT, Int.reduceBEq, Int.reduceBNe, Int.reduceAdd, Int.reduceSub, Int.reduceMul, Int.reduceNeg, ↓vD, vU, VE.ev, VE.evs, retvs, tupOf, grab, vfill, vbsl, eqCells, eqCell, veqs, veqs1, vmnx, AV.isCell, AV.isUndef, Nat.reduceEqDiff, Nat.reduceAdd, Nat.reduceSub, Nat.reduceLeDiff, Nat.reduceLT, reduceIte, reduceCtorEq, Nat.reduceBEq]) | (simp (disch := first | assumption | omega | exact Seg.len _ | exact Vec.len _ | exact Leg.len _ | exact num_len _ | exact rowA_len _ | exact rowA_len | exact rowT_len _ | exact rowT_len | exact Seg.len | exact Vec.len | exact Leg.len | exact num_len | exact AV.slen _ _ | rfl) only [vP]) | (with_reducible (first | refine gsnd (fun _ => ?_) (fun _ => ?_) | refine csnd (fun _ => ?_) (fun _ => ?_) | refine gsd (fun _ => ?_) (fun _ => ?_) | refine csd (fun _ => ?_) (fun _ => ?_) | refine gsn (fun _ => ?_) (fun _ => ?_) | refine csn (fun _ => ?_) (fun _ => ?_))) | (with_reducible refine gs (fun _ => ?_) (fun _ => ?_)) | (with_reducible refine cs_ (fun _ => ?_) (fun _ => ?_)) | (with_reducible refine objQ_i (fun _ _ => ?_); (repeat (with_reducible refine imp_i (fun _ => ?_)))) | ((try with_reducible refine appK_a ?_); first | (with_reducible refine appD_F (by refine ⟨?_, ?_, ?_, ?_⟩ <;> (first | assumption | omega | exact St.has_add (by assumption) | (simp only [ins_has]; exact St.has_add (by assumption)) | (simp only [ins_has, fresh_ins, kill_ins, add_ins] at *; exact St.has_add (by assumption)) | (simp only [*, ins_has, has_full, St.has_add]; done) | (simp [-List.map_take, -List.map_drop, or_imp, forall_and, Seg.a, Vec.a, Leg.a, num, okEl, cells_agg, cells_int, cells_sl, cells_bool, AV.isCell]; done) | (simp; omega))) (fun _ _ => ?_)) | (with_reducible refine appD_V (by refine ⟨?_, ?_, ?_, ?_, ?_⟩ <;> (first | assumption | omega | exact St.has_add (by assumption) | (simp only [ins_has]; exact St.has_add (by assumption)) | (simp only [ins_has, fresh_ins, kill_ins, add_ins] at *; exact St.has_add (by assumption)) | (simp only [*, ins_has, has_full, St.has_add]; done) | (simp [-List.map_take, -List.map_drop, or_imp, forall_and, Seg.a, Vec.a, Leg.a, num, okEl, cells_agg, cells_int, cells_sl, cells_bool, AV.isCell]; done) | (simp; omega))) (fun _ _ => ?_))) | (with_reducible refine freshQ_i (fun _ _ => ?_)) | (with_reducible refine nilQ_i (fun _ _ => ?_)) | (with_reducible first | refine callH_use (hgr) ?_ | refine pureQ_use (hgr) ?_) | (with_reducible first | refine callH_use (head_3) ?_ | refine pureQ_use (head_3) ?_) | (with_reducible first | refine callH_use (hmf) ?_ | refine pureQ_use (hmf) ?_) | (with_reducible first | refine callH_use (hmg) ?_ | refine pureQ_use (hmg) ?_) | (with_reducible first | refine callH_use (a1) ?_ | refine pureQ_use (a1) ?_) | (with_reducible first | refine callH_use (a2) ?_ | refine pureQ_use (a2) ?_) | (with_reducible first | refine callH_use (b1) ?_ | refine pureQ_use (b1) ?_) | (with_reducible first | refine callH_use (b2) ?_ | refine pureQ_use (b2) ?_) | (with_reducible first | refine callH_use (b3) ?_ | refine pureQ_use (b3) ?_) | (with_reducible first | refine callH_use (b4) ?_ | refine pureQ_use (b4) ?_) | (with_reducible first | refine callH_use (b5) ?_ | refine pureQ_use (b5) ?_) | (with_reducible first | refine callH_use (b6) ?_ | refine pureQ_use (b6) ?_) | (with_reducible first | refine callH_use (hA _) ?_ | refine pureQ_use (hA _) ?_) | (with_reducible first | refine callH_use (hB _) ?_ | refine pureQ_use (hB _) ?_) | (with_reducible first | refine callH_use (LE_1 _ _ _ _) ?_ | refine pureQ_use (LE_1 _ _ _ _) ?_)))
    clear hgr hmf hmg a1 a2 b1 b2 b3 b4 b5 b6
    refine loopf_of (len := f.length + g.length) (by simp only [asgL, dsts, List.cons_append, List.nil_append, List.append_nil]; rfl) (by simp only [noR, Bool.and_true, Bool.and_false]; rfl) (by omega) (fun k fr s => s = st ∧ fr.t 34 = .int .i64 k) ?_ ?_ ?_
    · simp [↓vD, vU, VE.ev, VE.evs, retvs, tupOf, grab, vfill, vbsl, eqCells, eqCell, veqs, veqs1, vmnx, AV.isCell, AV.isUndef, Nat.reduceEqDiff, Nat.reduceAdd, Nat.reduceSub, Nat.reduceLeDiff, Nat.reduceLT, reduceIte, reduceCtorEq, Nat.reduceBEq, k_app, k_slc1]
    · rintro k fr s hk hw hfr hd ⟨rfl, h34⟩
      by_cases hkf : k < f.length
      · (repeat' (first | (simp (config := { maxDischargeDepth := 16 }) only [*, Seg.a, vX, Int.reduceLE, Int.reduceLT, Int.reduceGE, Int.reduceGT, Int.reduceBEq, Int.reduceBNe, Int.reduceAdd, Int.reduceSub, Int.reduceMul, Int.reduceNeg, ↓vD, vU, VE.ev, VE.evs, retvs, tupOf, grab, vfill, vbsl, eqCells, eqCell, veqs, veqs1, vmnx, AV.isCell, AV.isUndef, Nat.reduceEqDiff, Nat.reduceAdd, Nat.reduceSub, Nat.reduceLeDiff, Nat.reduceLT, reduceIte, reduceCtorEq, Nat.reduceBEq]) | (simp (disch := first | assumption | omega | exact Seg.len _ | exact Vec.len _ | exact Leg.len _ | exact num_len _ | exact rowA_len _ | exact rowA_len | exact rowT_len _ | exact rowT_len | exact Seg.len | exact Vec.len | exact Leg.len | exact num_len | exact AV.slen _ _ | rfl) only [Seg.a, vP]) | (with_reducible (first | refine gsnd (fun _ => ?_) (fun _ => ?_) | refine csnd (fun _ => ?_) (fun _ => ?_) | refine gsd (fun _ => ?_) (fun _ => ?_) | refine csd (fun _ => ?_) (fun _ => ?_) | refine gsn (fun _ => ?_) (fun _ => ?_) | refine csn (fun _ => ?_) (fun _ => ?_))) | (with_reducible refine gs (fun _ => ?_) (fun _ => ?_)) | (with_reducible refine cs_ (fun _ => ?_) (fun _ => ?_)) | (with_reducible refine objQ_i (fun _ _ => ?_); (repeat (with_reducible refine imp_i (fun _ => ?_)))) | ((try with_reducible refine appK_a ?_); first | (with_reducible refine appD_F (by refine ⟨?_, ?_, ?_, ?_⟩ <;> (first | assumption | omega | exact St.has_add (by assumption) | (simp only [ins_has]; exact St.has_add (by assumption)) | (simp only [ins_has, fresh_ins, kill_ins, add_ins] at *; exact St.has_add (by assumption)) | (simp only [*, ins_has, has_full, St.has_add]; done) | (simp [-List.map_take, -List.map_drop, or_imp, forall_and, Seg.a, Vec.a, Leg.a, num, okEl, cells_agg, cells_int, cells_sl, cells_bool, AV.isCell]; done) | (simp; omega))) (fun _ _ => ?_)) | (with_reducible refine appD_V (by refine ⟨?_, ?_, ?_, ?_, ?_⟩ <;> (first | assumption | omega | exact St.has_add (by assumption) | (simp only [ins_has]; exact St.has_add (by assumption)) | (simp only [ins_has, fresh_ins, kill_ins, add_ins] at *; exact St.has_add (by assumption)) | (simp only [*, ins_has, has_full, St.has_add]; done) | (simp [-List.map_take, -List.map_drop, or_imp, forall_and, Seg.a, Vec.a, Leg.a, num, okEl, cells_agg, cells_int, cells_sl, cells_bool, AV.isCell]; done) | (simp; omega))) (fun _ _ => ?_))) | (with_reducible refine freshQ_i (fun _ _ => ?_)) | (with_reducible refine nilQ_i (fun _ _ => ?_)) | (with_reducible first | refine callH_use (hA _) ?_ | refine pureQ_use (hA _) ?_) | (with_reducible first | refine callH_use (hB _) ?_ | refine pureQ_use (hB _) ?_) | (with_reducible first | refine callH_use (LE_1 _ _ _ _) ?_ | refine pureQ_use (LE_1 _ _ _ _) ?_)))
      · obtain ⟨q, rfl⟩ : ∃ q, k = f.length + q := ⟨k - f.length, by omega⟩
        have hq : q < g.length := by omega
        have hwq : IntKind.i64.wrap (((f.length + q : Nat) : Int) - (f.length : Int)) = (q : Int) := by rw [wrap_i64 _ (by omega) (by omega)]; omega
        simp only [Int.natCast_add] at hwq
        (repeat' (first | (simp (config := { maxDischargeDepth := 16 }) only [*, Seg.a, vX, Int.reduceLE, Int.reduceLT, Int.reduceGE, Int.reduceGT, Int.reduceBEq, Int.reduceBNe, Int.reduceAdd, Int.reduceSub, Int.reduceMul, Int.reduceNeg, ↓vD, vU, VE.ev, VE.evs, retvs, tupOf, grab, vfill, vbsl, eqCells, eqCell, veqs, veqs1, vmnx, AV.isCell, AV.isUndef, Nat.reduceEqDiff, Nat.reduceAdd, Nat.reduceSub, Nat.reduceLeDiff, Nat.reduceLT, reduceIte, reduceCtorEq, Nat.reduceBEq]) | (simp (disch := first | assumption | omega | exact Seg.len _ | exact Vec.len _ | exact Leg.len _ | exact num_len _ | exact rowA_len _ | exact rowA_len | exact rowT_len _ | exact rowT_len | exact Seg.len | exact Vec.len | exact Leg.len | exact num_len | exact AV.slen _ _ | rfl) only [Seg.a, vP]) | (with_reducible (first | refine gsnd (fun _ => ?_) (fun _ => ?_) | refine csnd (fun _ => ?_) (fun _ => ?_) | refine gsd (fun _ => ?_) (fun _ => ?_) | refine csd (fun _ => ?_) (fun _ => ?_) | refine gsn (fun _ => ?_) (fun _ => ?_) | refine csn (fun _ => ?_) (fun _ => ?_))) | (with_reducible refine gs (fun _ => ?_) (fun _ => ?_)) | (with_reducible refine cs_ (fun _ => ?_) (fun _ => ?_)) | (with_reducible refine objQ_i (fun _ _ => ?_); (repeat (with_reducible refine imp_i (fun _ => ?_)))) | ((try with_reducible refine appK_a ?_); first | (with_reducible refine appD_F (by refine ⟨?_, ?_, ?_, ?_⟩ <;> (first | assumption | omega | exact St.has_add (by assumption) | (simp only [ins_has]; exact St.has_add (by assumption)) | (simp only [ins_has, fresh_ins, kill_ins, add_ins] at *; exact St.has_add (by assumption)) | (simp only [*, ins_has, has_full, St.has_add]; done) | (simp [-List.map_take, -List.map_drop, or_imp, forall_and, Seg.a, Vec.a, Leg.a, num, okEl, cells_agg, cells_int, cells_sl, cells_bool, AV.isCell]; done) | (simp; omega))) (fun _ _ => ?_)) | (with_reducible refine appD_V (by refine ⟨?_, ?_, ?_, ?_, ?_⟩ <;> (first | assumption | omega | exact St.has_add (by assumption) | (simp only [ins_has]; exact St.has_add (by assumption)) | (simp only [ins_has, fresh_ins, kill_ins, add_ins] at *; exact St.has_add (by assumption)) | (simp only [*, ins_has, has_full, St.has_add]; done) | (simp [-List.map_take, -List.map_drop, or_imp, forall_and, Seg.a, Vec.a, Leg.a, num, okEl, cells_agg, cells_int, cells_sl, cells_bool, AV.isCell]; done) | (simp; omega))) (fun _ _ => ?_))) | (with_reducible refine freshQ_i (fun _ _ => ?_)) | (with_reducible refine nilQ_i (fun _ _ => ?_)) | (with_reducible first | refine callH_use (hA _) ?_ | refine pureQ_use (hA _) ?_) | (with_reducible first | refine callH_use (hB _) ?_ | refine pureQ_use (hB _) ?_) | (with_reducible first | refine callH_use (LE_1 _ _ _ _) ?_ | refine pureQ_use (LE_1 _ _ _ _) ?_)))
    · rintro fr s hfr hd ⟨rfl, h34⟩
      rcases Int.lt_or_le a u with h | h
      · have hlast := hbef2 (u - 1) (by omega) (by omega)
        have hw2 : IntKind.i64.wrap (u - 1) = u - 1 := by rcases HW.out with e | e; exact e; omega
        have hne : (u == a) = false := by simp; omega
        (repeat' (first | (simp (config := { maxDischargeDepth := 16 }) only [*, vX, Int.reduceLE, Int.reduceLT, Int.reduceGE, Int.reduceGT, Int.reduceBEq, Int.reduceBNe, Int.reduceAdd, Int.reduceSub, Int.reduceMul, Int.reduceNeg, ↓vD, vU, VE.ev, VE.evs, retvs, tupOf, grab, vfill, vbsl, eqCells, eqCell, veqs, veqs1, vmnx, AV.isCell, AV.isUndef, Nat.reduceEqDiff, Nat.reduceAdd, Nat.reduceSub, Nat.reduceLeDiff, Nat.reduceLT, reduceIte, reduceCtorEq, Nat.reduceBEq]) | (simp (disch := first | assumption | omega | exact Seg.len _ | exact Vec.len _ | exact Leg.len _ | exact num_len _ | exact rowA_len _ | exact rowA_len | exact rowT_len _ | exact rowT_len | exact Seg.len | exact Vec.len | exact Leg.len | exact num_len | exact AV.slen _ _ | rfl) only [vP]) | (with_reducible (first | refine gsnd (fun _ => ?_) (fun _ => ?_) | refine csnd (fun _ => ?_) (fun _ => ?_) | refine gsd (fun _ => ?_) (fun _ => ?_) | refine csd (fun _ => ?_) (fun _ => ?_) | refine gsn (fun _ => ?_) (fun _ => ?_) | refine csn (fun _ => ?_) (fun _ => ?_))) | (with_reducible refine gs (fun _ => ?_) (fun _ => ?_)) | (with_reducible refine cs_ (fun _ => ?_) (fun _ => ?_)) | (with_reducible refine objQ_i (fun _ _ => ?_); (repeat (with_reducible refine imp_i (fun _ => ?_)))) | ((try with_reducible refine appK_a ?_); first | (with_reducible refine appD_F (by refine ⟨?_, ?_, ?_, ?_⟩ <;> (first | assumption | omega | exact St.has_add (by assumption) | (simp only [ins_has]; exact St.has_add (by assumption)) | (simp only [ins_has, fresh_ins, kill_ins, add_ins] at *; exact St.has_add (by assumption)) | (simp only [*, ins_has, has_full, St.has_add]; done) | (simp [-List.map_take, -List.map_drop, or_imp, forall_and, Seg.a, Vec.a, Leg.a, num, okEl, cells_agg, cells_int, cells_sl, cells_bool, AV.isCell]; done) | (simp; omega))) (fun _ _ => ?_)) | (with_reducible refine appD_V (by refine ⟨?_, ?_, ?_, ?_, ?_⟩ <;> (first | assumption | omega | exact St.has_add (by assumption) | (simp only [ins_has]; exact St.has_add (by assumption)) | (simp only [ins_has, fresh_ins, kill_ins, add_ins] at *; exact St.has_add (by assumption)) | (simp only [*, ins_has, has_full, St.has_add]; done) | (simp [-List.map_take, -List.map_drop, or_imp, forall_and, Seg.a, Vec.a, Leg.a, num, okEl, cells_agg, cells_int, cells_sl, cells_bool, AV.isCell]; done) | (simp; omega))) (fun _ _ => ?_))) | (with_reducible refine freshQ_i (fun _ _ => ?_)) | (with_reducible refine nilQ_i (fun _ _ => ?_)) | (with_reducible first | refine callH_use (hA _) ?_ | refine pureQ_use (hA _) ?_) | (with_reducible first | refine callH_use (hB _) ?_ | refine pureQ_use (hB _) ?_) | (with_reducible first | refine callH_use (LE_1 _ _ _ _) ?_ | refine pureQ_use (LE_1 _ _ _ _) ?_) | (with_reducible first | refine callH_use (head_3) ?_ | refine pureQ_use (head_3) ?_)))
      · have hne : u = a := by omega
        subst hne
        (repeat' (first | (simp (config := { maxDischargeDepth := 16 }) only [*, vX, Int.reduceLE, Int.reduceLT, Int.reduceGE, Int.reduceGT, Int.reduceBEq, Int.reduceBNe, Int.reduceAdd, Int.reduceSub, Int.reduceMul, Int.reduceNeg, ↓vD, vU, VE.ev, VE.evs, retvs, tupOf, grab, vfill, vbsl, eqCells, eqCell, veqs, veqs1, vmnx, AV.isCell, AV.isUndef, Nat.reduceEqDiff, Nat.reduceAdd, Nat.reduceSub, Nat.reduceLeDiff, Nat.reduceLT, reduceIte, reduceCtorEq, Nat.reduceBEq]) | (simp (disch := first | assumption | omega | exact Seg.len _ | exact Vec.len _ | exact Leg.len _ | exact num_len _ | exact rowA_len _ | exact rowA_len | exact rowT_len _ | exact rowT_len | exact Seg.len | exact Vec.len | exact Leg.len | exact num_len | exact AV.slen _ _ | rfl) only [vP]) | (with_reducible (first | refine gsnd (fun _ => ?_) (fun _ => ?_) | refine csnd (fun _ => ?_) (fun _ => ?_) | refine gsd (fun _ => ?_) (fun _ => ?_) | refine csd (fun _ => ?_) (fun _ => ?_) | refine gsn (fun _ => ?_) (fun _ => ?_) | refine csn (fun _ => ?_) (fun _ => ?_))) | (with_reducible refine gs (fun _ => ?_) (fun _ => ?_)) | (with_reducible refine cs_ (fun _ => ?_) (fun _ => ?_)) | (with_reducible refine objQ_i (fun _ _ => ?_); (repeat (with_reducible refine imp_i (fun _ => ?_)))) | ((try with_reducible refine appK_a ?_); first | (with_reducible refine appD_F (by refine ⟨?_, ?_, ?_, ?_⟩ <;> (first | assumption | omega | exact St.has_add (by assumption) | (simp only [ins_has]; exact St.has_add (by assumption)) | (simp only [ins_has, fresh_ins, kill_ins, add_ins] at *; exact St.has_add (by assumption)) | (simp only [*, ins_has, has_full, St.has_add]; done) | (simp [-List.map_take, -List.map_drop, or_imp, forall_and, Seg.a, Vec.a, Leg.a, num, okEl, cells_agg, cells_int, cells_sl, cells_bool, AV.isCell]; done) | (simp; omega))) (fun _ _ => ?_)) | (with_reducible refine appD_V (by refine ⟨?_, ?_, ?_, ?_, ?_⟩ <;> (first | assumption | omega | exact St.has_add (by assumption) | (simp only [ins_has]; exact St.has_add (by assumption)) | (simp only [ins_has, fresh_ins, kill_ins, add_ins] at *; exact St.has_add (by assumption)) | (simp only [*, ins_has, has_full, St.has_add]; done) | (simp [-List.map_take, -List.map_drop, or_imp, forall_and, Seg.a, Vec.a, Leg.a, num, okEl, cells_agg, cells_int, cells_sl, cells_bool, AV.isCell]; done) | (simp; omega))) (fun _ _ => ?_))) | (with_reducible refine freshQ_i (fun _ _ => ?_)) | (with_reducible refine nilQ_i (fun _ _ => ?_)) | (with_reducible first | refine callH_use (head_3) ?_ | refine pureQ_use (head_3) ?_)))
end Go.Proofs.Ytddbnncimggogaa.V
end
section
set_option linter.unusedSimpArgs false
set_option linter.unusedVariables false
/- Boxes, windows: plain. -/
namespace Go.Proofs.Ytddbnncimggogaa.V
open Go Go.Proofs Go.Proofs.Ytddbnncimggogaa.SP
theorem box_fold (a b : Int) (v : Vec) (h : a < b) : foldF [⟨a, v⟩, ⟨b, v0⟩] = withF (withF [] a v) b v0 := by
  have hup : (([⟨a, v⟩, ⟨b, v0⟩] : List Seg).map (·.t)).Pairwise (· < ·) := by simp [h]
  unfold foldF
  rw [srt_self hup]
  have := fold_withs [⟨a, v⟩, ⟨b, v0⟩] [] hup
  rw [show lastW [] = v0 from rfl] at this
  rw [this]; rfl
theorem box_fold0 (a : Int) (v : Vec) : foldF [⟨a, v⟩, ⟨a, v0⟩] = [] := by
  have hs : sortS (ltB cmpS) ([⟨a, v⟩, ⟨a, v0⟩] : List Seg) = [⟨a, v⟩, ⟨a, v0⟩] := by
    refine (sortS_of swoS ?_ (Stb.refl _)).symm
    simp [Srt, ltS]
  unfold foldF
  rw [hs]
  simp [foldB, nextB, putF]
theorem box_ref (a b : Int) (v : Vec) (h : a < b) : refF [⟨a, v⟩, ⟨b, v0⟩] = withF (withF [] a v) b v0 := by
  have ht : timesF [a, b] = [a, b] := timesF_self (by simp [h])
  unfold refF
  simp only [List.map_cons, List.map_nil, ht, List.foldl_cons, List.foldl_nil]
  have e1 : rawF [⟨a, v⟩, ⟨b, v0⟩] a = v := by simp [rawF]; omega
  have e2 : rawF [⟨a, v⟩, ⟨b, v0⟩] b = v0 := by simp [rawF]
  rw [e1, e2]
theorem box_ref0 (a : Int) (v : Vec) : refF [⟨a, v⟩, ⟨a, v0⟩] = [] := by
  have ht : timesF [a, a] = [a] := by simp [timesF, insT, cntT]
  unfold refF
  simp only [List.map_cons, List.map_nil, ht, List.foldl_cons, List.foldl_nil]
  have e2 : rawF [⟨a, v⟩, ⟨a, v0⟩] a = v0 := by simp [rawF]
  rw [e2]; rfl
theorem box_same (a b : Int) (v : Vec) : boxF1 a b v = boxF2 a b v := by
  unfold boxF1 boxF2
  split
  · rfl
  · rename_i h
    unfold ofF refOf
    split
    · rcases Int.lt_or_le a b with c | c
      · rw [box_fold a b v c, box_ref a b v c]
      · have : b = a := by omega
        subst this
        rw [box_fold0, box_ref0]
    · rfl
theorem range_do (f : List Seg) (a b : Int) (v : Vec) : rangeC f a b v = rangeR f a b v := by
  unfold rangeC rangeR
  rw [box_same, add_do]
def boxV (a b : Int) (v : Vec) (t : Int) : Vec := if a ≤ t ∧ t < b then v else v0
theorem box_law (a b : Int) (v : Vec) (h : (boxF2 a b v).2 = 0) : a ≤ b ∧ inR a = true ∧ inR b = true ∧ mayV v = true := by
  unfold boxF2 at h
  split at h
  · cases h
  · rename_i c
    unfold refOf at h
    split at h
    · rename_i hin
      simp only [List.all_cons, List.all_nil, Bool.and_true, Bool.and_eq_true, inSeg] at hin
      exact ⟨by omega, hin.1.1, hin.2.1, hin.1.2⟩
    · cases h
theorem box_spec (a b : Int) (v : Vec) (hab : a ≤ b) (ha : inR a = true) (hb : inR b = true) (hv : mayV v = true) : (boxF2 a b v).2 = 0 ∧ mayF (boxF2 a b v).1 = true ∧ ∀ t, atF (boxF2 a b v).1 t = boxV a b v t := by
  have hin : ([⟨a, v⟩, ⟨b, v0⟩] : List Seg).all inSeg = true := by
    simp only [List.all_cons, List.all_nil, inSeg, ha, hb, hv]; rfl
  have hbox : boxF2 a b v = (refF [⟨a, v⟩, ⟨b, v0⟩], 0) := by
    unfold boxF2 refOf
    rw [if_neg (by omega), if_pos hin]
  rw [hbox]
  refine ⟨rfl, ?_⟩
  rcases Int.lt_or_le a b with c | c
  · simp only
    rw [box_ref a b v c]
    obtain ⟨c1, c2, c3, c4⟩ := with_spec [] a v trivial (by simp)
    obtain ⟨d1, d2, d3, d4⟩ := with_spec (withF [] a v) b v0 c1 (fun x hx => by have := c2 x hx; omega)
    refine ⟨(mayF_iff _).2 ⟨d1, fun x hx => ?_⟩, fun t => ?_⟩
    · rcases d3 x hx with hx | rfl
      · rcases c3 x hx with hx | rfl
        · cases hx
        · unfold inSeg; rw [ha, hv]; rfl
      · unfold inSeg; rw [hb]; rfl
    · rw [d4, c4]
      unfold boxV
      by_cases h1 : b ≤ t
      · rw [if_pos h1, if_neg (by omega)]
      · rw [if_neg h1]
        by_cases h2 : a ≤ t
        · rw [if_pos h2, if_pos (by omega)]
        · rw [if_neg h2, if_neg (by omega)]; rfl
  · have : b = a := by omega
    subst this
    simp only
    rw [box_ref0]
    exact ⟨rfl, fun t => by unfold boxV; rw [if_neg (by omega)]; rfl⟩
theorem rangeR_err (f : List Seg) (a b : Int) (v : Vec) (h : ¬ (rangeR f a b v).2 = 0) : (rangeR f a b v).1 = [] := by
  unfold rangeR at h ⊢
  split
  · rename_i c
    rw [if_pos c] at h
    split
    · rename_i c2
      rw [if_pos c2] at h
      rcases doR_err 0 f (boxF2 a b v).1 with e | e | e
      · exact absurd e h
      · rw [e]
      · rw [e]
    · rfl
  · rfl
theorem rangeR_law (f : List Seg) (a b : Int) (v : Vec) (h : (rangeR f a b v).2 = 0) :
    mayF f = true ∧ mayF (rangeR f a b v).1 = true ∧ mayV v = true ∧ (∀ t, a ≤ t → t < b → (addR (atF f t) v).1 = atF (rangeR f a b v).1 t) ∧ (∀ t, ¬ (a ≤ t ∧ t < b) → atF f t = atF (rangeR f a b v).1 t) ∧
      rangeR (rangeR f a b v).1 a b ⟨wr (-v.m), wr (-v.c)⟩ = (f, 0) := by
  cases hf : mayF f with
  | false => unfold rangeR at h; rw [hf] at h; cases h
  | true =>
  have e0 : rangeR f a b v = if (boxF2 a b v).2 = 0 then doR 0 f (boxF2 a b v).1 else ([], (boxF2 a b v).2) := by unfold rangeR; rw [hf]; rfl
  by_cases hb0 : (boxF2 a b v).2 = 0
  case neg => rw [e0, if_neg hb0] at h; exact absurd h hb0
  rw [if_pos hb0] at e0
  obtain ⟨hab, ia, ib, iv⟩ := box_law a b v hb0
  obtain ⟨_, mb, vb⟩ := box_spec a b v hab ia ib iv
  rw [e0] at h
  obtain ⟨_, _, mr, vr⟩ := doR_may h
  rw [e0]
  have hvi := (mayV_iff v).1 iv
  have hneg : (⟨wr (-v.m), wr (-v.c)⟩ : Vec) = ⟨-v.m, -v.c⟩ := by rw [wr_id (by omega) (by omega), wr_id (by omega) (by omega)]
  have inn : mayV ⟨-v.m, -v.c⟩ = true := by rw [mayV_iff]; simp only; omega
  refine ⟨rfl, mr, iv, fun t h1 h2 => ?_, fun t ht => ?_, ?_⟩
  · have := vr t
    rw [vb t, boxV, if_pos ⟨h1, h2⟩] at this
    have e : oneR 0 (atF f t) v = addR (atF f t) v := by unfold oneR; rw [if_pos rfl]
    rw [← e, this]
  · have := vr t
    rw [vb t, boxV, if_neg ht, add_val _ _ (may_at hf t) (by rfl)] at this
    have e : (⟨(atF f t).m + v0.m, (atF f t).c + v0.c⟩ : Vec) = atF f t := by simp [v0]
    rw [e] at this
    exact (told_ok this).1
  · rw [hneg]
    obtain ⟨nb0, nmb, nvb⟩ := box_spec a b ⟨-v.m, -v.c⟩ hab ia ib inn
    have e1 : rangeR (doR 0 f (boxF2 a b v).1).1 a b ⟨-v.m, -v.c⟩ = doR 0 (doR 0 f (boxF2 a b v).1).1 (boxF2 a b ⟨-v.m, -v.c⟩).1 := by
      unfold rangeR; rw [mr, if_pos rfl, if_pos nb0]
    rw [e1]
    refine doR_is 0 _ _ f mr nmb hf (fun t => ?_)
    rw [nvb t]
    have h3 := vr t
    rw [vb t] at h3
    unfold boxV at h3 ⊢
    by_cases c : a ≤ t ∧ t < b
    · rw [if_pos c] at h3 ⊢
      rw [add_val _ _ (may_at hf t) iv] at h3
      obtain ⟨h4, _⟩ := told_ok h3
      rw [add_val _ _ (may_at mr t) inn, ← h4]
      have e : (⟨(atF f t).m + v.m + -v.m, (atF f t).c + v.c + -v.c⟩ : Vec) = atF f t := by
        rw [← vec_eta (atF f t)]; simp only [Vec.mk.injEq]; omega
      rw [e, toldF_may (may_at hf t)]
    · rw [if_neg c] at h3 ⊢
      rw [add_val _ _ (may_at hf t) (by rfl)] at h3
      have e : (⟨(atF f t).m + v0.m, (atF f t).c + v0.c⟩ : Vec) = atF f t := by simp [v0]
      rw [e] at h3
      obtain ⟨h4, _⟩ := told_ok h3
      rw [add_val _ _ (may_at mr t) (by rfl), ← h4, e, toldF_may (may_at hf t)]
end Go.Proofs.Ytddbnncimggogaa.V
end
section
set_option linter.unusedSimpArgs false
set_option linter.unusedVariables false
/- Arrays that are handed in. -/
namespace Go.Proofs.Ytddbnncimggogaa.V
open Go Go.ChangeShapes Go.WideShapes Go.ChangeAt Go.RowKit Go.Deep
set_option maxRecDepth 100000
/-- Two ints in an array. -/
def arr2A (p : Int × Int) : AV := .agg [.int .i64 p.1, .int .i64 p.2]
theorem trod_array2 {H : Type} {enc : TypeId × Value → H} {w : World} {base : Nat} {spare : Nat → Bool} {held : Bool} {t e : TypeId} {fuel : Nat} {c0 c1 : Value} {x : DataW H × List MemPlace} (ht : Try.prog.underlying t = some (.array 2 e)) (hce : Try.prog.cellsOf e = 1)
    (h : DataW.trod enc Try.prog w base spare held fuel t [c0, c1] = some x) :
    ∃ y0 y1 n, DataW.trod enc Try.prog w base spare held n e [c0] = some y0 ∧ DataW.trod enc Try.prog w base spare held n e [c1] = some y1 := by
  cases fuel with
  | zero => simp [DataW.trod] at h
  | succ n =>
    unfold DataW.trod at h
    rw [ht] at h
    have r2 : List.range 2 = [0, 1] := rfl
    simp [r2, hce] at h
    obtain ⟨_, h⟩ := h
    cases h0 : DataW.trod enc Try.prog w base spare held n e [c0] with
    | none => simp [h0] at h
    | some y0 =>
      cases h1 : DataW.trod enc Try.prog w base spare held n e [c1] with
      | none => simp [h0, h1] at h
      | some y1 => exact ⟨y0, y1, n, h0, h1⟩
theorem open_arr2 {H : Type} {enc : TypeId × Value → H} {w : World} {base base' : Nat} {spare : Nat → Bool} {held : Bool} {v : Value} {d : DataW H} {ps : List MemPlace} {r : Reach} (hval : Value.okWide Try.prog w r base' 41 v) (h : DataW.Trod enc Try.prog w base spare held 41 v d ps) :
    ∃ p : Int × Int, Rep (imW w) (arr2A p) v ∧ (I64 p.1 ∧ I64 p.2) := by
  have hu : Try.prog.underlying 41 = some (.array 2 2) := by kernel_rfl
  have hc2 : Try.prog.cellsOf 41 = 2 := by kernel_rfl
  have hc1 : Try.prog.cellsOf 2 = 1 := by kernel_rfl
  simp only [Value.okWide, hu] at hval
  obtain ⟨cs, rfl, hsz, _⟩ := hval
  rw [hc2] at hsz
  obtain ⟨c0, c1, rfl⟩ : ∃ c0 c1, cs = #[c0, c1] := by
    obtain ⟨l⟩ := cs
    match l, hsz with
    | [c0, c1], _ => exact ⟨c0, c1, rfl⟩
  obtain ⟨fuel, hf⟩ := h
  have hf : DataW.trod enc Try.prog w base spare held fuel 41 [c0, c1] = some (d, ps) := hf
  obtain ⟨y0, y1, n, h0, h1⟩ := trod_array2 hu hc1 hf
  obtain ⟨a, e0, _, w0⟩ := DataW.trod_int Try.underlying2 h0
  obtain ⟨b, e1, _, w1⟩ := DataW.trod_int Try.underlying2 h1
  simp at e0 e1
  subst e0 e1
  exact ⟨(a, b), by simp only [arr2A, Rep]; exact ⟨_, rfl, by simp [RepL, Rep]⟩, i64_of w0, i64_of w1⟩
end Go.Proofs.Ytddbnncimggogaa.V
end
section
set_option linter.unusedSimpArgs false
set_option linter.unusedVariables false
/- CalcRange, walked. -/
namespace Go.Proofs.Ytddbnncimggogaa.V
open Go Go.Proofs
set_option maxRecDepth 100000
set_option maxHeartbeats 4000000
/-- What the statement's own vector is. -/
def vecOf (x : List Seg) : Vec := (x.head?.map (·.v)).getD ⟨2, -1⟩
theorem calcRange_v (f : List Seg) (_ : ∀ x ∈ f, wfSeg x) (hf : (f.length : Int) ≤ 9223372036854775807) (w : Int × Int) (_ : I64 w.1 ∧ I64 w.2) (x : List Seg) (_ : ∀ y ∈ x, wfSeg y) (hx : (x.length : Int) ≤ 9223372036854775807) :
    VPure Try.prog 6 [.sl (f.map Seg.a) .no, arr2A w, .sl (x.map Seg.a) .no] (.bool true) := by
  obtain ⟨w0, w1⟩ := w
  have hgr := great_3 f x hf hx .no .no
  have hi0 : ∀ b, viaa 2 1 (.ptr b 0) (.int .i64 0) = some (.ptr b 0) := fun b => rfl
  have hi1 : ∀ b, viaa 2 1 (.ptr b 0) (.int .i64 1) = some (.ptr b 1) := fun b => rfl
  refine VPure.of v_liverylaw03_CalcRange_ok (Nat.le_of_ble_eq_true rfl) (fun Z st => ?_)
  by_cases hbig : (decide (60 < f.length) || decide (60 < x.length)) = true
  · rw [hbig] at hgr
    clear hbig
    simp only [v_liverylaw03_CalcRange, ↓vD, vU, VE.ev, VE.evs, retvs, tupOf, grab, vfill, vbsl, eqCells, eqCell, veqs, veqs1, vmnx, AV.isCell, AV.isUndef, Nat.reduceEqDiff, Nat.reduceAdd, Nat.reduceSub, Nat.reduceLeDiff, Nat.reduceLT, reduceIte, reduceCtorEq, Nat.reduceBEq, k_app, k_slc1]
    (repeat' (first | (simp (config := { maxDischargeDepth := 16 }) only [*, arr2A, vX, Int.reduceLE, Int.reduceLT, Int.reduceGE, Int.reduceGT, Int.reduceBEq, Int.reduceBNe, Int.reduceAdd, Int.reduceSub, Int.reduceMul, Int.reduceNeg, ↓vD, vU, VE.ev, VE.evs, retvs, tupOf, grab, vfill, vbsl, eqCells, eqCell, veqs, veqs1, vmnx, AV.isCell, AV.isUndef, Nat.reduceEqDiff, Nat.reduceAdd, Nat.reduceSub, Nat.reduceLeDiff, Nat.reduceLT, reduceIte, reduceCtorEq, Nat.reduceBEq]) | (simp (disch := first | assumption | omega | exact Seg.len _ | exact Vec.len _ | exact Leg.len _ | exact num_len _ | exact rowA_len _ | exact rowA_len | exact rowT_len _ | exact rowT_len | exact Seg.len | exact Vec.len | exact Leg.len | exact num_len | exact AV.slen _ _ | rfl) only [arr2A, vP]) | (with_reducible (first | refine gsnd (fun _ => ?_) (fun _ => ?_) | refine csnd (fun _ => ?_) (fun _ => ?_) | refine gsd (fun _ => ?_) (fun _ => ?_) | refine csd (fun _ => ?_) (fun _ => ?_) | refine gsn (fun _ => ?_) (fun _ => ?_) | refine csn (fun _ => ?_) (fun _ => ?_))) | (with_reducible refine gs (fun _ => ?_) (fun _ => ?_)) | (with_reducible refine cs_ (fun _ => ?_) (fun _ => ?_)) | (with_reducible refine objQ_i (fun _ _ => ?_); (repeat (with_reducible refine imp_i (fun _ => ?_)))) | ((try with_reducible refine appK_a ?_); first | (with_reducible refine appD_F (by refine ⟨?_, ?_, ?_, ?_⟩ <;> (first | assumption | omega | exact St.has_add (by assumption) | (simp only [ins_has]; exact St.has_add (by assumption)) | (simp only [ins_has, fresh_ins, kill_ins, add_ins] at *; exact St.has_add (by assumption)) | (simp only [*, ins_has, has_full, St.has_add]; done) | (simp [-List.map_take, -List.map_drop, or_imp, forall_and, Seg.a, Vec.a, Leg.a, num, okEl, cells_agg, cells_int, cells_sl, cells_bool, AV.isCell]; done) | (simp; omega))) (fun _ _ => ?_)) | (with_reducible refine appD_V (by refine ⟨?_, ?_, ?_, ?_, ?_⟩ <;> (first | assumption | omega | exact St.has_add (by assumption) | (simp only [ins_has]; exact St.has_add (by assumption)) | (simp only [ins_has, fresh_ins, kill_ins, add_ins] at *; exact St.has_add (by assumption)) | (simp only [*, ins_has, has_full, St.has_add]; done) | (simp [-List.map_take, -List.map_drop, or_imp, forall_and, Seg.a, Vec.a, Leg.a, num, okEl, cells_agg, cells_int, cells_sl, cells_bool, AV.isCell]; done) | (simp; omega))) (fun _ _ => ?_))) | (with_reducible refine freshQ_i (fun _ _ => ?_)) | (with_reducible refine nilQ_i (fun _ _ => ?_)) | (with_reducible first | refine callH_use (hgr) ?_ | refine pureQ_use (hgr) ?_) | (with_reducible first | refine callH_use (head_3) ?_ | refine pureQ_use (head_3) ?_)))
  have hb : (decide (60 < f.length) || decide (60 < x.length)) = false := by simpa using hbig
  rw [hb] at hgr
  have hf6 : f.length ≤ 60 := by simp at hb; omega
  have hx6 : x.length ≤ 60 := by simp at hb; omega
  clear hbig hb hf hx
  by_cases h40 : 40 < x.length
  · simp only [v_liverylaw03_CalcRange, ↓vD, vU, VE.ev, VE.evs, retvs, tupOf, grab, vfill, vbsl, eqCells, eqCell, veqs, veqs1, vmnx, AV.isCell, AV.isUndef, Nat.reduceEqDiff, Nat.reduceAdd, Nat.reduceSub, Nat.reduceLeDiff, Nat.reduceLT, reduceIte, reduceCtorEq, Nat.reduceBEq, k_app, k_slc1]
    (repeat' (first | (simp (config := { maxDischargeDepth := 16 }) only [*, arr2A, vX, Int.reduceLE, Int.reduceLT, Int.reduceGE, Int.reduceGT, Int.reduceBEq, Int.reduceBNe, Int.reduceAdd, Int.reduceSub, Int.reduceMul, Int.reduceNeg, ↓vD, vU, VE.ev, VE.evs, retvs, tupOf, grab, vfill, vbsl, eqCells, eqCell, veqs, veqs1, vmnx, AV.isCell, AV.isUndef, Nat.reduceEqDiff, Nat.reduceAdd, Nat.reduceSub, Nat.reduceLeDiff, Nat.reduceLT, reduceIte, reduceCtorEq, Nat.reduceBEq]) | (simp (disch := first | assumption | omega | exact Seg.len _ | exact Vec.len _ | exact Leg.len _ | exact num_len _ | exact rowA_len _ | exact rowA_len | exact rowT_len _ | exact rowT_len | exact Seg.len | exact Vec.len | exact Leg.len | exact num_len | exact AV.slen _ _ | rfl) only [arr2A, vP]) | (with_reducible (first | refine gsnd (fun _ => ?_) (fun _ => ?_) | refine csnd (fun _ => ?_) (fun _ => ?_) | refine gsd (fun _ => ?_) (fun _ => ?_) | refine csd (fun _ => ?_) (fun _ => ?_) | refine gsn (fun _ => ?_) (fun _ => ?_) | refine csn (fun _ => ?_) (fun _ => ?_))) | (with_reducible refine gs (fun _ => ?_) (fun _ => ?_)) | (with_reducible refine cs_ (fun _ => ?_) (fun _ => ?_)) | (with_reducible refine objQ_i (fun _ _ => ?_); (repeat (with_reducible refine imp_i (fun _ => ?_)))) | ((try with_reducible refine appK_a ?_); first | (with_reducible refine appD_F (by refine ⟨?_, ?_, ?_, ?_⟩ <;> (first | assumption | omega | exact St.has_add (by assumption) | (simp only [ins_has]; exact St.has_add (by assumption)) | (simp only [ins_has, fresh_ins, kill_ins, add_ins] at *; exact St.has_add (by assumption)) | (simp only [*, ins_has, has_full, St.has_add]; done) | (simp [-List.map_take, -List.map_drop, or_imp, forall_and, Seg.a, Vec.a, Leg.a, num, okEl, cells_agg, cells_int, cells_sl, cells_bool, AV.isCell]; done) | (simp; omega))) (fun _ _ => ?_)) | (with_reducible refine appD_V (by refine ⟨?_, ?_, ?_, ?_, ?_⟩ <;> (first | assumption | omega | exact St.has_add (by assumption) | (simp only [ins_has]; exact St.has_add (by assumption)) | (simp only [ins_has, fresh_ins, kill_ins, add_ins] at *; exact St.has_add (by assumption)) | (simp only [*, ins_has, has_full, St.has_add]; done) | (simp [-List.map_take, -List.map_drop, or_imp, forall_and, Seg.a, Vec.a, Leg.a, num, okEl, cells_agg, cells_int, cells_sl, cells_bool, AV.isCell]; done) | (simp; omega))) (fun _ _ => ?_))) | (with_reducible refine freshQ_i (fun _ _ => ?_)) | (with_reducible refine nilQ_i (fun _ _ => ?_)) | (with_reducible first | refine callH_use (hgr) ?_ | refine pureQ_use (hgr) ?_) | (with_reducible first | refine callH_use (head_3) ?_ | refine pureQ_use (head_3) ?_)))
  obtain ⟨v, hv⟩ : ∃ v, vecOf x = v := ⟨_, rfl⟩
  have a0 := Range_c f (by omega) .no w0 w1 v.m v.c
  have b0 := Range_3 f (by omega) .no w0 w1 v.m v.c
  rw [range_do] at a0
  have hlen : (rangeR f w0 w1 v).1.length ≤ 62 := by
    unfold rangeR
    split
    · split
      · have := doR_len 0 f (boxF2 w0 w1 v).1
        have := boxF2_len w0 w1 v
        omega
      · simp
    · simp
  have hlaw := rangeR_law f w0 w1 v
  have herr := rangeR_err f w0 w1 v
  have a0' : VPure Try.prog 26 [.sl (f.map Seg.a) .no, .int .i64 w0, .int .i64 w1, .agg [.int .i64 v.m, .int .i64 v.c]] (.tup [.sl ((rangeR f w0 w1 v).1.map Seg.a) .no, .int .i64 (rangeR f w0 w1 v).2]) := a0
  have b0' : VPure Try.prog 27 [.sl (f.map Seg.a) .no, .int .i64 w0, .int .i64 w1, .agg [.int .i64 v.m, .int .i64 v.c]] (.tup [.sl ((rangeR f w0 w1 v).1.map Seg.a) .no, .int .i64 (rangeR f w0 w1 v).2]) := b0
  clear a0 b0
  obtain ⟨D, hD⟩ : ∃ D, rangeR f w0 w1 v = D := ⟨_, rfl⟩
  rw [hD] at a0' b0' hlen hlaw herr
  have s0 := Same_2 D.1 D.1 (by omega) .no .no
  simp only [sameF, beq_self_eq_true] at s0
  have HV := Hid.mk hv
  clear hD hv
  by_cases hok : D.2 = 0
  case neg =>
    have hnil := herr hok
    rw [hnil] at a0' b0' s0
    have HO := Hid.mk hlaw
    clear hlaw herr hlen hnil
    simp only [List.map_nil] at a0' b0' s0
    cases x with
    | nil =>
      have e : (⟨2, -1⟩ : Vec) = v := HV.out
      subst e
      simp only [List.map_nil] at hgr
      simp only [v_liverylaw03_CalcRange, ↓vD, vU, VE.ev, VE.evs, retvs, tupOf, grab, vfill, vbsl, eqCells, eqCell, veqs, veqs1, vmnx, AV.isCell, AV.isUndef, Nat.reduceEqDiff, Nat.reduceAdd, Nat.reduceSub, Nat.reduceLeDiff, Nat.reduceLT, reduceIte, reduceCtorEq, Nat.reduceBEq, k_app, k_slc1]
      (repeat' (first | (simp (config := { maxDischargeDepth := 16 }) only [*, arr2A, vX, Int.reduceLE, Int.reduceLT, Int.reduceGE, Int.reduceGT, Int.reduceBEq, Int.reduceBNe, Int.reduceAdd, Int.reduceSub, Int.reduceMul, Int.reduceNeg, ↓vD, vU, VE.ev, VE.evs, retvs, tupOf, grab, vfill, vbsl, eqCells, eqCell, veqs, veqs1, vmnx, AV.isCell, AV.isUndef, Nat.reduceEqDiff, Nat.reduceAdd, Nat.reduceSub, Nat.reduceLeDiff, Nat.reduceLT, reduceIte, reduceCtorEq, Nat.reduceBEq]) | (simp (disch := first | assumption | omega | exact Seg.len _ | exact Vec.len _ | exact Leg.len _ | exact num_len _ | exact rowA_len _ | exact rowA_len | exact rowT_len _ | exact rowT_len | exact Seg.len | exact Vec.len | exact Leg.len | exact num_len | exact AV.slen _ _ | rfl) only [arr2A, vP]) | (with_reducible (first | refine gsnd (fun _ => ?_) (fun _ => ?_) | refine csnd (fun _ => ?_) (fun _ => ?_) | refine gsd (fun _ => ?_) (fun _ => ?_) | refine csd (fun _ => ?_) (fun _ => ?_) | refine gsn (fun _ => ?_) (fun _ => ?_) | refine csn (fun _ => ?_) (fun _ => ?_))) | (with_reducible refine gs (fun _ => ?_) (fun _ => ?_)) | (with_reducible refine cs_ (fun _ => ?_) (fun _ => ?_)) | (with_reducible refine objQ_i (fun _ _ => ?_); (repeat (with_reducible refine imp_i (fun _ => ?_)))) | ((try with_reducible refine appK_a ?_); first | (with_reducible refine appD_F (by refine ⟨?_, ?_, ?_, ?_⟩ <;> (first | assumption | omega | exact St.has_add (by assumption) | (simp only [ins_has]; exact St.has_add (by assumption)) | (simp only [ins_has, fresh_ins, kill_ins, add_ins] at *; exact St.has_add (by assumption)) | (simp only [*, ins_has, has_full, St.has_add]; done) | (simp [-List.map_take, -List.map_drop, or_imp, forall_and, Seg.a, Vec.a, Leg.a, num, okEl, cells_agg, cells_int, cells_sl, cells_bool, AV.isCell]; done) | (simp; omega))) (fun _ _ => ?_)) | (with_reducible refine appD_V (by refine ⟨?_, ?_, ?_, ?_, ?_⟩ <;> (first | assumption | omega | exact St.has_add (by assumption) | (simp only [ins_has]; exact St.has_add (by assumption)) | (simp only [ins_has, fresh_ins, kill_ins, add_ins] at *; exact St.has_add (by assumption)) | (simp only [*, ins_has, has_full, St.has_add]; done) | (simp [-List.map_take, -List.map_drop, or_imp, forall_and, Seg.a, Vec.a, Leg.a, num, okEl, cells_agg, cells_int, cells_sl, cells_bool, AV.isCell]; done) | (simp; omega))) (fun _ _ => ?_))) | (with_reducible refine freshQ_i (fun _ _ => ?_)) | (with_reducible refine nilQ_i (fun _ _ => ?_)) | (with_reducible first | refine callH_use (hgr) ?_ | refine pureQ_use (hgr) ?_) | (with_reducible first | refine callH_use (head_3) ?_ | refine pureQ_use (head_3) ?_) | (with_reducible first | refine callH_use (a0') ?_ | refine pureQ_use (a0') ?_) | (with_reducible first | refine callH_use (b0') ?_ | refine pureQ_use (b0') ?_) | (with_reducible first | refine callH_use (s0) ?_ | refine pureQ_use (s0) ?_)))
    | cons z x' =>
      have h0 : z :: x' ≠ [] := by simp
      obtain ⟨x, hxx⟩ : ∃ x, z :: x' = x := ⟨_, rfl⟩
      rw [hxx] at h0 hgr HV hx6 h40 ⊢
      clear hxx
      have hx0 : 0 < x.length := List.length_pos_iff.2 h0
      obtain ⟨y, hy0⟩ : ∃ y, x[0] = y := ⟨_, rfl⟩
      have e : y.v = v := by
        rw [← HV.out, ← hy0]
        cases x with
        | nil => exact absurd rfl h0
        | cons z x => rfl
      clear h0
      subst e
      simp only [v_liverylaw03_CalcRange, ↓vD, vU, VE.ev, VE.evs, retvs, tupOf, grab, vfill, vbsl, eqCells, eqCell, veqs, veqs1, vmnx, AV.isCell, AV.isUndef, Nat.reduceEqDiff, Nat.reduceAdd, Nat.reduceSub, Nat.reduceLeDiff, Nat.reduceLT, reduceIte, reduceCtorEq, Nat.reduceBEq, k_app, k_slc1]
      (repeat' (first | (simp (config := { maxDischargeDepth := 16 }) only [*, arr2A, Seg.a, vX, Int.reduceLE, Int.reduceLT, Int.reduceGE, Int.reduceGT, Int.reduceBEq, Int.reduceBNe, Int.reduceAdd, Int.reduceSub, Int.reduceMul, Int.reduceNeg, ↓vD, vU, VE.ev, VE.evs, retvs, tupOf, grab, vfill, vbsl, eqCells, eqCell, veqs, veqs1, vmnx, AV.isCell, AV.isUndef, Nat.reduceEqDiff, Nat.reduceAdd, Nat.reduceSub, Nat.reduceLeDiff, Nat.reduceLT, reduceIte, reduceCtorEq, Nat.reduceBEq]) | (simp (disch := first | assumption | omega | exact Seg.len _ | exact Vec.len _ | exact Leg.len _ | exact num_len _ | exact rowA_len _ | exact rowA_len | exact rowT_len _ | exact rowT_len | exact Seg.len | exact Vec.len | exact Leg.len | exact num_len | exact AV.slen _ _ | rfl) only [arr2A, Seg.a, vP]) | (with_reducible (first | refine gsnd (fun _ => ?_) (fun _ => ?_) | refine csnd (fun _ => ?_) (fun _ => ?_) | refine gsd (fun _ => ?_) (fun _ => ?_) | refine csd (fun _ => ?_) (fun _ => ?_) | refine gsn (fun _ => ?_) (fun _ => ?_) | refine csn (fun _ => ?_) (fun _ => ?_))) | (with_reducible refine gs (fun _ => ?_) (fun _ => ?_)) | (with_reducible refine cs_ (fun _ => ?_) (fun _ => ?_)) | (with_reducible refine objQ_i (fun _ _ => ?_); (repeat (with_reducible refine imp_i (fun _ => ?_)))) | ((try with_reducible refine appK_a ?_); first | (with_reducible refine appD_F (by refine ⟨?_, ?_, ?_, ?_⟩ <;> (first | assumption | omega | exact St.has_add (by assumption) | (simp only [ins_has]; exact St.has_add (by assumption)) | (simp only [ins_has, fresh_ins, kill_ins, add_ins] at *; exact St.has_add (by assumption)) | (simp only [*, ins_has, has_full, St.has_add]; done) | (simp [-List.map_take, -List.map_drop, or_imp, forall_and, Seg.a, Vec.a, Leg.a, num, okEl, cells_agg, cells_int, cells_sl, cells_bool, AV.isCell]; done) | (simp; omega))) (fun _ _ => ?_)) | (with_reducible refine appD_V (by refine ⟨?_, ?_, ?_, ?_, ?_⟩ <;> (first | assumption | omega | exact St.has_add (by assumption) | (simp only [ins_has]; exact St.has_add (by assumption)) | (simp only [ins_has, fresh_ins, kill_ins, add_ins] at *; exact St.has_add (by assumption)) | (simp only [*, ins_has, has_full, St.has_add]; done) | (simp [-List.map_take, -List.map_drop, or_imp, forall_and, Seg.a, Vec.a, Leg.a, num, okEl, cells_agg, cells_int, cells_sl, cells_bool, AV.isCell]; done) | (simp; omega))) (fun _ _ => ?_))) | (with_reducible refine freshQ_i (fun _ _ => ?_)) | (with_reducible refine nilQ_i (fun _ _ => ?_)) | (with_reducible first | refine callH_use (hgr) ?_ | refine pureQ_use (hgr) ?_) | (with_reducible first | refine callH_use (head_3) ?_ | refine pureQ_use (head_3) ?_) | (with_reducible first | refine callH_use (a0') ?_ | refine pureQ_use (a0') ?_) | (with_reducible first | refine callH_use (b0') ?_ | refine pureQ_use (b0') ?_) | (with_reducible first | refine callH_use (s0) ?_ | refine pureQ_use (s0) ?_)))
  obtain ⟨mf, mr, mv, hin, hout, hback⟩ := hlaw hok
  have a1 := Range_c D.1 (by omega) .no w0 w1 (wr (-v.m)) (wr (-v.c))
  rw [range_do, hback] at a1
  have m1 := May_2 D.1 (by omega) .no
  rw [mr] at m1
  have s1 := Same_2 f f (by omega) .no .no
  simp only [sameF, beq_self_eq_true] at s1
  have en : ∀ n : Int, wr (-n) = IntKind.i64.wrap (0 - n) := fun n => by rw [Int.zero_sub]; rfl
  simp only [num, en] at a1
  rw [hok] at a0' b0'
  have hA := fun t => At_2 f (by omega) .no t
  have hR := fun t => At_2 D.1 (by omega) .no t
  have hAd : ∀ t, VPure Try.prog 29 [.agg [.int .i64 (atF f t).m, .int .i64 (atF f t).c], .agg [.int .i64 v.m, .int .i64 v.c]] (.tup [.agg [.int .i64 (addR (atF f t) v).1.m, .int .i64 (addR (atF f t) v).1.c], .int .i64 (addR (atF f t) v).2]) := fun t => Add_1 (atF f t).m (atF f t).c v.m v.c
  simp only [num] at hA hR
  have ho1 : ∀ t, ¬ w0 ≤ t → atF f t = atF D.1 t := fun t h => hout t (fun c => h c.1)
  have ho2 : ∀ t, ¬ t < w1 → atF f t = atF D.1 t := fun t h => hout t (fun c => h c.2)
  have HI := Hid.mk (And.intro hin (And.intro ho1 ho2))
  clear hlaw herr hlen hok mf mr mv hout hback en hin ho1 ho2
  cases x with
  | nil =>
    have e : (⟨2, -1⟩ : Vec) = v := HV.out
    subst e
    simp only [List.map_nil] at hgr
    simp only [show IntKind.i64.wrap (0 - 2) = -2 from by decide, show IntKind.i64.wrap (0 - -1) = 1 from by decide] at a1
    simp only [v_liverylaw03_CalcRange, ↓vD, vU, VE.ev, VE.evs, retvs, tupOf, grab, vfill, vbsl, eqCells, eqCell, veqs, veqs1, vmnx, AV.isCell, AV.isUndef, Nat.reduceEqDiff, Nat.reduceAdd, Nat.reduceSub, Nat.reduceLeDiff, Nat.reduceLT, reduceIte, reduceCtorEq, Nat.reduceBEq, k_app, k_slc1]
    (repeat' (first | (simp (config := { maxDischargeDepth := 16 }) only [*, arr2A, vX, Int.reduceLE, Int.reduceLT, Int.reduceGE, Int.reduceGT, Int.reduceBEq, Int.reduceBNe, Int.reduceAdd, Int.reduceSub, Int.reduceMul, Int.reduceNeg, ↓vD, vU, VE.ev, VE.evs, retvs, tupOf, grab, vfill, vbsl, eqCells, eqCell, veqs, veqs1, vmnx, AV.isCell, AV.isUndef, Nat.reduceEqDiff, Nat.reduceAdd, Nat.reduceSub, Nat.reduceLeDiff, Nat.reduceLT, reduceIte, reduceCtorEq, Nat.reduceBEq]) | (simp (disch := first | assumption | omega | exact Seg.len _ | exact Vec.len _ | exact Leg.len _ | exact num_len _ | exact rowA_len _ | exact rowA_len | exact rowT_len _ | exact rowT_len | exact Seg.len | exact Vec.len | exact Leg.len | exact num_len | exact AV.slen _ _ | rfl) only [arr2A, vP]) | (with_reducible (first | refine gsnd (fun _ => ?_) (fun _ => ?_) | refine csnd (fun _ => ?_) (fun _ => ?_) | refine gsd (fun _ => ?_) (fun _ => ?_) | refine csd (fun _ => ?_) (fun _ => ?_) | refine gsn (fun _ => ?_) (fun _ => ?_) | refine csn (fun _ => ?_) (fun _ => ?_))) | (with_reducible refine gs (fun _ => ?_) (fun _ => ?_)) | (with_reducible refine cs_ (fun _ => ?_) (fun _ => ?_)) | (with_reducible refine objQ_i (fun _ _ => ?_); (repeat (with_reducible refine imp_i (fun _ => ?_)))) | ((try with_reducible refine appK_a ?_); first | (with_reducible refine appD_F (by refine ⟨?_, ?_, ?_, ?_⟩ <;> (first | assumption | omega | exact St.has_add (by assumption) | (simp only [ins_has]; exact St.has_add (by assumption)) | (simp only [ins_has, fresh_ins, kill_ins, add_ins] at *; exact St.has_add (by assumption)) | (simp only [*, ins_has, has_full, St.has_add]; done) | (simp [-List.map_take, -List.map_drop, or_imp, forall_and, Seg.a, Vec.a, Leg.a, num, okEl, cells_agg, cells_int, cells_sl, cells_bool, AV.isCell]; done) | (simp; omega))) (fun _ _ => ?_)) | (with_reducible refine appD_V (by refine ⟨?_, ?_, ?_, ?_, ?_⟩ <;> (first | assumption | omega | exact St.has_add (by assumption) | (simp only [ins_has]; exact St.has_add (by assumption)) | (simp only [ins_has, fresh_ins, kill_ins, add_ins] at *; exact St.has_add (by assumption)) | (simp only [*, ins_has, has_full, St.has_add]; done) | (simp [-List.map_take, -List.map_drop, or_imp, forall_and, Seg.a, Vec.a, Leg.a, num, okEl, cells_agg, cells_int, cells_sl, cells_bool, AV.isCell]; done) | (simp; omega))) (fun _ _ => ?_))) | (with_reducible refine freshQ_i (fun _ _ => ?_)) | (with_reducible refine nilQ_i (fun _ _ => ?_)) | (with_reducible first | refine callH_use (hgr) ?_ | refine pureQ_use (hgr) ?_) | (with_reducible first | refine callH_use (head_3) ?_ | refine pureQ_use (head_3) ?_) | (with_reducible first | refine callH_use (a0') ?_ | refine pureQ_use (a0') ?_) | (with_reducible first | refine callH_use (b0') ?_ | refine pureQ_use (b0') ?_) | (with_reducible first | refine callH_use (s0) ?_ | refine pureQ_use (s0) ?_)))
    refine loop_out ?_
    (repeat' (first | (simp (config := { maxDischargeDepth := 16 }) only [*, arr2A, vX, Int.reduceLE, Int.reduceLT, Int.reduceGE, Int.reduceGT, Int.reduceBEq, Int.reduceBNe, Int.reduceAdd, Int.reduceSub, Int.reduceMul, Int.reduceNeg, ↓vD, vU, VE.ev, VE.evs, retvs, tupOf, grab, vfill, vbsl, eqCells, eqCell, veqs, veqs1, vmnx, AV.isCell, AV.isUndef, Nat.reduceEqDiff, Nat.reduceAdd, Nat.reduceSub, Nat.reduceLeDiff, Nat.reduceLT, reduceIte, reduceCtorEq, Nat.reduceBEq]) | (simp (disch := first | assumption | omega | exact Seg.len _ | exact Vec.len _ | exact Leg.len _ | exact num_len _ | exact rowA_len _ | exact rowA_len | exact rowT_len _ | exact rowT_len | exact Seg.len | exact Vec.len | exact Leg.len | exact num_len | exact AV.slen _ _ | rfl) only [arr2A, vP]) | (with_reducible (first | refine gsnd (fun _ => ?_) (fun _ => ?_) | refine csnd (fun _ => ?_) (fun _ => ?_) | refine gsd (fun _ => ?_) (fun _ => ?_) | refine csd (fun _ => ?_) (fun _ => ?_) | refine gsn (fun _ => ?_) (fun _ => ?_) | refine csn (fun _ => ?_) (fun _ => ?_))) | (with_reducible refine gs (fun _ => ?_) (fun _ => ?_)) | (with_reducible refine cs_ (fun _ => ?_) (fun _ => ?_)) | (with_reducible refine objQ_i (fun _ _ => ?_); (repeat (with_reducible refine imp_i (fun _ => ?_)))) | ((try with_reducible refine appK_a ?_); first | (with_reducible refine appD_F (by refine ⟨?_, ?_, ?_, ?_⟩ <;> (first | assumption | omega | exact St.has_add (by assumption) | (simp only [ins_has]; exact St.has_add (by assumption)) | (simp only [ins_has, fresh_ins, kill_ins, add_ins] at *; exact St.has_add (by assumption)) | (simp only [*, ins_has, has_full, St.has_add]; done) | (simp [-List.map_take, -List.map_drop, or_imp, forall_and, Seg.a, Vec.a, Leg.a, num, okEl, cells_agg, cells_int, cells_sl, cells_bool, AV.isCell]; done) | (simp; omega))) (fun _ _ => ?_)) | (with_reducible refine appD_V (by refine ⟨?_, ?_, ?_, ?_, ?_⟩ <;> (first | assumption | omega | exact St.has_add (by assumption) | (simp only [ins_has]; exact St.has_add (by assumption)) | (simp only [ins_has, fresh_ins, kill_ins, add_ins] at *; exact St.has_add (by assumption)) | (simp only [*, ins_has, has_full, St.has_add]; done) | (simp [-List.map_take, -List.map_drop, or_imp, forall_and, Seg.a, Vec.a, Leg.a, num, okEl, cells_agg, cells_int, cells_sl, cells_bool, AV.isCell]; done) | (simp; omega))) (fun _ _ => ?_))) | (with_reducible refine freshQ_i (fun _ _ => ?_)) | (with_reducible refine nilQ_i (fun _ _ => ?_)) | (with_reducible first | refine callH_use (head_3) ?_ | refine pureQ_use (head_3) ?_) | (with_reducible first | refine callH_use (a1) ?_ | refine pureQ_use (a1) ?_) | (with_reducible first | refine callH_use (m1) ?_ | refine pureQ_use (m1) ?_) | (with_reducible first | refine callH_use (s1) ?_ | refine pureQ_use (s1) ?_)))
  | cons z x' =>
    have h0 : z :: x' ≠ [] := by simp
    obtain ⟨x, hxx⟩ : ∃ x, z :: x' = x := ⟨_, rfl⟩
    rw [hxx] at h0 hgr HV hx6 h40 ⊢
    clear hxx
    have hx0 : 0 < x.length := List.length_pos_iff.2 h0
    obtain ⟨y, hy0⟩ : ∃ y, x[0] = y := ⟨_, rfl⟩
    have e : y.v = v := by
      rw [← HV.out, ← hy0]
      cases x with
      | nil => exact absurd rfl h0
      | cons z x => rfl
    clear h0
    subst e
    simp only [v_liverylaw03_CalcRange, ↓vD, vU, VE.ev, VE.evs, retvs, tupOf, grab, vfill, vbsl, eqCells, eqCell, veqs, veqs1, vmnx, AV.isCell, AV.isUndef, Nat.reduceEqDiff, Nat.reduceAdd, Nat.reduceSub, Nat.reduceLeDiff, Nat.reduceLT, reduceIte, reduceCtorEq, Nat.reduceBEq, k_app, k_slc1]
    (repeat' (first | (simp (config := { maxDischargeDepth := 16 }) only [*, arr2A, Seg.a, vX, Int.reduceLE, Int.reduceLT, Int.reduceGE, Int.reduceGT, Int.reduceBEq, Int.reduceBNe, Int.reduceAdd, Int.reduceSub, Int.reduceMul, Int.reduceNeg, ↓vD, vU, VE.ev, VE.evs, retvs, tupOf, grab, vfill, vbsl, eqCells, eqCell, veqs, veqs1, vmnx, AV.isCell, AV.isUndef, Nat.reduceEqDiff, Nat.reduceAdd, Nat.reduceSub, Nat.reduceLeDiff, Nat.reduceLT, reduceIte, reduceCtorEq, Nat.reduceBEq]) | (simp (disch := first | assumption | omega | exact Seg.len _ | exact Vec.len _ | exact Leg.len _ | exact num_len _ | exact rowA_len _ | exact rowA_len | exact rowT_len _ | exact rowT_len | exact Seg.len | exact Vec.len | exact Leg.len | exact num_len | exact AV.slen _ _ | rfl) only [arr2A, Seg.a, vP]) | (with_reducible (first | refine gsnd (fun _ => ?_) (fun _ => ?_) | refine csnd (fun _ => ?_) (fun _ => ?_) | refine gsd (fun _ => ?_) (fun _ => ?_) | refine csd (fun _ => ?_) (fun _ => ?_) | refine gsn (fun _ => ?_) (fun _ => ?_) | refine csn (fun _ => ?_) (fun _ => ?_))) | (with_reducible refine gs (fun _ => ?_) (fun _ => ?_)) | (with_reducible refine cs_ (fun _ => ?_) (fun _ => ?_)) | (with_reducible refine objQ_i (fun _ _ => ?_); (repeat (with_reducible refine imp_i (fun _ => ?_)))) | ((try with_reducible refine appK_a ?_); first | (with_reducible refine appD_F (by refine ⟨?_, ?_, ?_, ?_⟩ <;> (first | assumption | omega | exact St.has_add (by assumption) | (simp only [ins_has]; exact St.has_add (by assumption)) | (simp only [ins_has, fresh_ins, kill_ins, add_ins] at *; exact St.has_add (by assumption)) | (simp only [*, ins_has, has_full, St.has_add]; done) | (simp [-List.map_take, -List.map_drop, or_imp, forall_and, Seg.a, Vec.a, Leg.a, num, okEl, cells_agg, cells_int, cells_sl, cells_bool, AV.isCell]; done) | (simp; omega))) (fun _ _ => ?_)) | (with_reducible refine appD_V (by refine ⟨?_, ?_, ?_, ?_, ?_⟩ <;> (first | assumption | omega | exact St.has_add (by assumption) | (simp only [ins_has]; exact St.has_add (by assumption)) | (simp only [ins_has, fresh_ins, kill_ins, add_ins] at *; exact St.has_add (by assumption)) | (simp only [*, ins_has, has_full, St.has_add]; done) | (simp [-List.map_take, -List.map_drop, or_imp, forall_and, Seg.a, Vec.a, Leg.a, num, okEl, cells_agg, cells_int, cells_sl, cells_bool, AV.isCell]; done) | (simp; omega))) (fun _ _ => ?_))) | (with_reducible refine freshQ_i (fun _ _ => ?_)) | (with_reducible refine nilQ_i (fun _ _ => ?_)) | (with_reducible first | refine callH_use (hgr) ?_ | refine pureQ_use (hgr) ?_) | (with_reducible first | refine callH_use (head_3) ?_ | refine pureQ_use (head_3) ?_) | (with_reducible first | refine callH_use (a0') ?_ | refine pureQ_use (a0') ?_) | (with_reducible first | refine callH_use (b0') ?_ | refine pureQ_use (b0') ?_) | (with_reducible first | refine callH_use (s0) ?_ | refine pureQ_use (s0) ?_)))
    rename_i b4 h4 b7 h7 n1 n2
    clear hgr a0' b0' s0 hy0
    refine loopf_of (len := x.length) (by simp only [asgL, dsts, List.cons_append, List.nil_append, List.append_nil]; rfl) (by simp only [noR, Bool.and_true, Bool.and_false]; rfl) (by omega) (fun k fr s => s = (st.ins b4 (.cells [.int .i64 w0, .int .i64 w1])).ins b7 (.cells [.int .i64 y.v.m, .int .i64 y.v.c]) ∧ fr.t 12 = .int .i64 k) ?_ ?_ ?_
    · simp [↓vD, vU, VE.ev, VE.evs, retvs, tupOf, grab, vfill, vbsl, eqCells, eqCell, veqs, veqs1, vmnx, AV.isCell, AV.isUndef, Nat.reduceEqDiff, Nat.reduceAdd, Nat.reduceSub, Nat.reduceLeDiff, Nat.reduceLT, reduceIte, reduceCtorEq, Nat.reduceBEq, k_app, k_slc1]
    · rintro k fr s hk hw hfr hd ⟨rfl, h12⟩
      obtain ⟨hin, ho1, ho2⟩ := HI.out
      obtain ⟨u, hu⟩ : ∃ u, x[k] = u := ⟨_, rfl⟩
      (repeat' (first | (simp (config := { maxDischargeDepth := 16 }) only [*, arr2A, Seg.a, vX, Int.reduceLE, Int.reduceLT, Int.reduceGE, Int.reduceGT, Int.reduceBEq, Int.reduceBNe, Int.reduceAdd, Int.reduceSub, Int.reduceMul, Int.reduceNeg, ↓vD, vU, VE.ev, VE.evs, retvs, tupOf, grab, vfill, vbsl, eqCells, eqCell, veqs, veqs1, vmnx, AV.isCell, AV.isUndef, Nat.reduceEqDiff, Nat.reduceAdd, Nat.reduceSub, Nat.reduceLeDiff, Nat.reduceLT, reduceIte, reduceCtorEq, Nat.reduceBEq]) | (simp (disch := first | assumption | omega | exact Seg.len _ | exact Vec.len _ | exact Leg.len _ | exact num_len _ | exact rowA_len _ | exact rowA_len | exact rowT_len _ | exact rowT_len | exact Seg.len | exact Vec.len | exact Leg.len | exact num_len | exact AV.slen _ _ | rfl) only [arr2A, Seg.a, vP]) | (with_reducible (first | refine gsnd (fun _ => ?_) (fun _ => ?_) | refine csnd (fun _ => ?_) (fun _ => ?_) | refine gsd (fun _ => ?_) (fun _ => ?_) | refine csd (fun _ => ?_) (fun _ => ?_) | refine gsn (fun _ => ?_) (fun _ => ?_) | refine csn (fun _ => ?_) (fun _ => ?_))) | (with_reducible refine gs (fun _ => ?_) (fun _ => ?_)) | (with_reducible refine cs_ (fun _ => ?_) (fun _ => ?_)) | (with_reducible refine objQ_i (fun _ _ => ?_); (repeat (with_reducible refine imp_i (fun _ => ?_)))) | ((try with_reducible refine appK_a ?_); first | (with_reducible refine appD_F (by refine ⟨?_, ?_, ?_, ?_⟩ <;> (first | assumption | omega | exact St.has_add (by assumption) | (simp only [ins_has]; exact St.has_add (by assumption)) | (simp only [ins_has, fresh_ins, kill_ins, add_ins] at *; exact St.has_add (by assumption)) | (simp only [*, ins_has, has_full, St.has_add]; done) | (simp [-List.map_take, -List.map_drop, or_imp, forall_and, Seg.a, Vec.a, Leg.a, num, okEl, cells_agg, cells_int, cells_sl, cells_bool, AV.isCell]; done) | (simp; omega))) (fun _ _ => ?_)) | (with_reducible refine appD_V (by refine ⟨?_, ?_, ?_, ?_, ?_⟩ <;> (first | assumption | omega | exact St.has_add (by assumption) | (simp only [ins_has]; exact St.has_add (by assumption)) | (simp only [ins_has, fresh_ins, kill_ins, add_ins] at *; exact St.has_add (by assumption)) | (simp only [*, ins_has, has_full, St.has_add]; done) | (simp [-List.map_take, -List.map_drop, or_imp, forall_and, Seg.a, Vec.a, Leg.a, num, okEl, cells_agg, cells_int, cells_sl, cells_bool, AV.isCell]; done) | (simp; omega))) (fun _ _ => ?_))) | (with_reducible refine freshQ_i (fun _ _ => ?_)) | (with_reducible refine nilQ_i (fun _ _ => ?_)) | (with_reducible first | refine callH_use (hA _) ?_ | refine pureQ_use (hA _) ?_) | (with_reducible first | refine callH_use (hR _) ?_ | refine pureQ_use (hR _) ?_) | (with_reducible first | refine callH_use (hAd _) ?_ | refine pureQ_use (hAd _) ?_)))
    · rintro fr s hfr hd ⟨rfl, h12⟩
      (repeat' (first | (simp (config := { maxDischargeDepth := 16 }) only [*, arr2A, Seg.a, vX, Int.reduceLE, Int.reduceLT, Int.reduceGE, Int.reduceGT, Int.reduceBEq, Int.reduceBNe, Int.reduceAdd, Int.reduceSub, Int.reduceMul, Int.reduceNeg, ↓vD, vU, VE.ev, VE.evs, retvs, tupOf, grab, vfill, vbsl, eqCells, eqCell, veqs, veqs1, vmnx, AV.isCell, AV.isUndef, Nat.reduceEqDiff, Nat.reduceAdd, Nat.reduceSub, Nat.reduceLeDiff, Nat.reduceLT, reduceIte, reduceCtorEq, Nat.reduceBEq]) | (simp (disch := first | assumption | omega | exact Seg.len _ | exact Vec.len _ | exact Leg.len _ | exact num_len _ | exact rowA_len _ | exact rowA_len | exact rowT_len _ | exact rowT_len | exact Seg.len | exact Vec.len | exact Leg.len | exact num_len | exact AV.slen _ _ | rfl) only [arr2A, Seg.a, vP]) | (with_reducible (first | refine gsnd (fun _ => ?_) (fun _ => ?_) | refine csnd (fun _ => ?_) (fun _ => ?_) | refine gsd (fun _ => ?_) (fun _ => ?_) | refine csd (fun _ => ?_) (fun _ => ?_) | refine gsn (fun _ => ?_) (fun _ => ?_) | refine csn (fun _ => ?_) (fun _ => ?_))) | (with_reducible refine gs (fun _ => ?_) (fun _ => ?_)) | (with_reducible refine cs_ (fun _ => ?_) (fun _ => ?_)) | (with_reducible refine objQ_i (fun _ _ => ?_); (repeat (with_reducible refine imp_i (fun _ => ?_)))) | ((try with_reducible refine appK_a ?_); first | (with_reducible refine appD_F (by refine ⟨?_, ?_, ?_, ?_⟩ <;> (first | assumption | omega | exact St.has_add (by assumption) | (simp only [ins_has]; exact St.has_add (by assumption)) | (simp only [ins_has, fresh_ins, kill_ins, add_ins] at *; exact St.has_add (by assumption)) | (simp only [*, ins_has, has_full, St.has_add]; done) | (simp [-List.map_take, -List.map_drop, or_imp, forall_and, Seg.a, Vec.a, Leg.a, num, okEl, cells_agg, cells_int, cells_sl, cells_bool, AV.isCell]; done) | (simp; omega))) (fun _ _ => ?_)) | (with_reducible refine appD_V (by refine ⟨?_, ?_, ?_, ?_, ?_⟩ <;> (first | assumption | omega | exact St.has_add (by assumption) | (simp only [ins_has]; exact St.has_add (by assumption)) | (simp only [ins_has, fresh_ins, kill_ins, add_ins] at *; exact St.has_add (by assumption)) | (simp only [*, ins_has, has_full, St.has_add]; done) | (simp [-List.map_take, -List.map_drop, or_imp, forall_and, Seg.a, Vec.a, Leg.a, num, okEl, cells_agg, cells_int, cells_sl, cells_bool, AV.isCell]; done) | (simp; omega))) (fun _ _ => ?_))) | (with_reducible refine freshQ_i (fun _ _ => ?_)) | (with_reducible refine nilQ_i (fun _ _ => ?_)) | (with_reducible first | refine callH_use (head_3) ?_ | refine pureQ_use (head_3) ?_) | (with_reducible first | refine callH_use (a1) ?_ | refine pureQ_use (a1) ?_) | (with_reducible first | refine callH_use (m1) ?_ | refine pureQ_use (m1) ?_) | (with_reducible first | refine callH_use (s1) ?_ | refine pureQ_use (s1) ?_)))
end Go.Proofs.Ytddbnncimggogaa.V
end
