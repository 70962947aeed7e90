/- Texts of this claim, joined: Cspan2, VXfit, Cfit, Pcalc5, Pfit, Cvec2, Cfit2, Pfit2, Cfit3, Cfit4, Cfit5, VXliverylaw15, Chead15, Cfit6, Pfit3, Pfit4, C15b0, VOpn, O15, C15a, O15a, C15b. -/
import Derived.Test.YtglekfgoadehbaaDoorQFitU4
import Derived.Test.YtglekfgoadehbaaDoorQFitU2
import Derived.Test.YtglekfgoadehbaaDoorProg
import Derived.Test.YtglekfgoadehbaaDoorQFitU3
import Derived.OpenShut
section
set_option linter.unusedSimpArgs false
set_option linter.unusedVariables false
/- What the package span's functions compute: over, least, Low. -/
namespace Go.Proofs.YtglekfgoadehbaaDoor.V
open Go Go.Proofs
set_option maxRecDepth 100000
set_option maxHeartbeats 4000000
theorem VCalls.z {P : Program} {Z Y : Im} {f : Nat} {args : List AV} {st : St} {K : AV → St → Prop} (h : VCalls P Z f args st K) (hz : Z.le Y) : VCalls P Y f args st K :=
  ⟨h.1, fun B I W vs hy hr ha => h.2 B I W vs (hz.trans hy) hr ha⟩
theorem VCalls.sm {P : Program} {Z : Im} {f : Nat} {args : List AV} {st : St} {K : AV → St → Prop} (h : VCalls P Z f args st (fun r s => ∃ S', K r S' ∧ S'.le s)) : VCalls P Z f args st K :=
  h.wk (fun v _ ⟨S', hk, hle⟩ => ⟨v, S', Wk.le hle _, hk⟩)
theorem over_c {Z : Im} {st : St} (f : List Seg) (hn : f.length ≤ 1000000) (a z : Int) (t : Tok) {g : Nat} {fs cs : List AV} (I : Nat → St → Prop) (h0 : I 0 st)
    (hh : overE f a z = 0 → ∀ k (hk : k < (runsF f a z).length) S, I k S → VCalls Tryd.prog Z g (fs ++ [runA (runsF f a z)[k]] ++ cs) S (fun _ s => I (k + 1) s)) :
    VCalls Tryd.prog Z 76 [.sl (f.map Seg.a) t, num a, num z, .clo g fs cs] st (fun r s => r = num (overE f a z) ∧ (if overE f a z = 0 then I (runsF f a z).length s else I 0 s)) := by
  refine VCalls.sm ?_
  have hmay := May_F f (by omega) t
  obtain ⟨mf, hmf⟩ : ∃ m, mayF f = m := ⟨_, rfl⟩
  rw [hmf] at hmay
  have hin := in2_v a z
  cases mf with
  | false =>
    have e : overE f a z = 5 := by unfold overE; rw [hmf]; rfl
    simp only [e, if_false, Int.reduceEq]
    clear hmf e hh
    refine VCalls.of v_span_over_ok (Nat.le_of_ble_eq_true rfl) ?_
    simp only [v_span_over, ↓vD, vU, ↓vMd, vMu, vZ, seval, k_app, k_slc1]
    (repeat' (first | (simp (maxDischargeDepth := 16) only [*, num, vX, ↓vD, vU, ↓vMd, vMu, vZ, seval]) | (simp (disch := first | assumption | omega | rfl | exact fun _ => rfl) only [num, vP]) | ((with_reducible first | apply gsnd | apply csnd | apply gsd | apply csd | apply gsn | apply csn | apply gs | apply cs_) <;> intro _) | (with_reducible refine objQ_i (fun _ _ => ?_); repeat with_reducible refine imp_i (fun _ => ?_)) | (with_reducible first | refine callH_use (hmay) ?_ | refine pureQ_use (hmay) ?_) | (with_reducible first | refine callH_use (hin _) ?_ | refine pureQ_use (hin _) ?_)))
    exact ⟨_, St.le.refl _, st, h0, by (refine ⟨fun i o e => ?_, fun _ h => h⟩; revert e; simp only [St.ins, St.del, add_objs, kill_objs]; (repeat' split); all_goals (first | exact id | (intros; contradiction) | (intros; subst_vars; contradiction) | (intros; simp_all; done) | (intros; subst_vars; simp_all; done)))⟩
  | true =>
  by_cases hc : -1125899906842624 ≤ min a z ∧ max a z ≤ 1125899906842624 ∧ a < z ∧ z - a ≤ 8000
  case neg =>
    have e : overE f a z = 2 := by unfold overE; rw [hmf, if_pos rfl, if_neg hc]
    simp only [e, if_false, Int.reduceEq]
    clear hmf e hh
    by_cases c1 : -1125899906842624 ≤ min a z
    case neg =>
      refine VCalls.of v_span_over_ok (Nat.le_of_ble_eq_true rfl) ?_
      simp only [v_span_over, ↓vD, vU, ↓vMd, vMu, vZ, seval, k_app, k_slc1]
      (repeat' (first | (simp (maxDischargeDepth := 16) only [*, num, decide_false, decide_true, Bool.false_and, Bool.true_and, Bool.and_false, Bool.not_false, Bool.not_true, vX, ↓vD, vU, ↓vMd, vMu, vZ, seval]) | (simp (disch := first | assumption | omega | rfl | exact fun _ => rfl) only [num, decide_false, decide_true, Bool.false_and, Bool.true_and, Bool.and_false, Bool.not_false, Bool.not_true, vP]) | ((with_reducible first | apply gsnd | apply csnd | apply gsd | apply csd | apply gsn | apply csn | apply gs | apply cs_) <;> intro _) | (with_reducible refine objQ_i (fun _ _ => ?_); repeat with_reducible refine imp_i (fun _ => ?_)) | (with_reducible first | refine callH_use (hmay) ?_ | refine pureQ_use (hmay) ?_) | (with_reducible first | refine callH_use (hin _) ?_ | refine pureQ_use (hin _) ?_)))
      exact ⟨_, St.le.refl _, st, h0, by (refine ⟨fun i o e => ?_, fun _ h => h⟩; revert e; simp only [St.ins, St.del, add_objs, kill_objs]; (repeat' split); all_goals (first | exact id | (intros; contradiction) | (intros; subst_vars; contradiction) | (intros; simp_all; done) | (intros; subst_vars; simp_all; done)))⟩
    by_cases c2 : max a z ≤ 1125899906842624
    case neg =>
      refine VCalls.of v_span_over_ok (Nat.le_of_ble_eq_true rfl) ?_
      simp only [v_span_over, ↓vD, vU, ↓vMd, vMu, vZ, seval, k_app, k_slc1]
      (repeat' (first | (simp (maxDischargeDepth := 16) only [*, num, decide_false, decide_true, Bool.false_and, Bool.true_and, Bool.and_false, Bool.not_false, Bool.not_true, vX, ↓vD, vU, ↓vMd, vMu, vZ, seval]) | (simp (disch := first | assumption | omega | rfl | exact fun _ => rfl) only [num, decide_false, decide_true, Bool.false_and, Bool.true_and, Bool.and_false, Bool.not_false, Bool.not_true, vP]) | ((with_reducible first | apply gsnd | apply csnd | apply gsd | apply csd | apply gsn | apply csn | apply gs | apply cs_) <;> intro _) | (with_reducible refine objQ_i (fun _ _ => ?_); repeat with_reducible refine imp_i (fun _ => ?_)) | (with_reducible first | refine callH_use (hmay) ?_ | refine pureQ_use (hmay) ?_) | (with_reducible first | refine callH_use (hin _) ?_ | refine pureQ_use (hin _) ?_)))
      exact ⟨_, St.le.refl _, st, h0, by (refine ⟨fun i o e => ?_, fun _ h => h⟩; revert e; simp only [St.ins, St.del, add_objs, kill_objs]; (repeat' split); all_goals (first | exact id | (intros; contradiction) | (intros; subst_vars; contradiction) | (intros; simp_all; done) | (intros; subst_vars; simp_all; done)))⟩
    have b1 : -1125899906842624 ≤ a ∧ -1125899906842624 ≤ z ∧ a ≤ 1125899906842624 ∧ z ≤ 1125899906842624 := by omega
    obtain ⟨b1, b2, b3, b4⟩ := b1
    have hw : IntKind.i64.wrap (z - a) = z - a := wrap_i64 _ (by omega) (by omega)
    by_cases c3 : z ≤ a
    · refine VCalls.of v_span_over_ok (Nat.le_of_ble_eq_true rfl) ?_
      simp only [v_span_over, ↓vD, vU, ↓vMd, vMu, vZ, seval, k_app, k_slc1]
      (repeat' (first | (simp (maxDischargeDepth := 16) only [*, num, decide_false, decide_true, Bool.false_and, Bool.true_and, Bool.and_false, Bool.not_false, Bool.not_true, vX, ↓vD, vU, ↓vMd, vMu, vZ, seval]) | (simp (disch := first | assumption | omega | rfl | exact fun _ => rfl) only [num, decide_false, decide_true, Bool.false_and, Bool.true_and, Bool.and_false, Bool.not_false, Bool.not_true, vP]) | ((with_reducible first | apply gsnd | apply csnd | apply gsd | apply csd | apply gsn | apply csn | apply gs | apply cs_) <;> intro _) | (with_reducible refine objQ_i (fun _ _ => ?_); repeat with_reducible refine imp_i (fun _ => ?_)) | (with_reducible first | refine callH_use (hmay) ?_ | refine pureQ_use (hmay) ?_) | (with_reducible first | refine callH_use (hin _) ?_ | refine pureQ_use (hin _) ?_)))
      exact ⟨_, St.le.refl _, st, h0, by (refine ⟨fun i o e => ?_, fun _ h => h⟩; revert e; simp only [St.ins, St.del, add_objs, kill_objs]; (repeat' split); all_goals (first | exact id | (intros; contradiction) | (intros; subst_vars; contradiction) | (intros; simp_all; done) | (intros; subst_vars; simp_all; done)))⟩
    · have c4 : 8000 < z - a := by omega
      refine VCalls.of v_span_over_ok (Nat.le_of_ble_eq_true rfl) ?_
      simp only [v_span_over, ↓vD, vU, ↓vMd, vMu, vZ, seval, k_app, k_slc1]
      (repeat' (first | (simp (maxDischargeDepth := 16) only [*, num, decide_false, decide_true, Bool.false_and, Bool.true_and, Bool.and_false, Bool.not_false, Bool.not_true, vX, ↓vD, vU, ↓vMd, vMu, vZ, seval]) | (simp (disch := first | assumption | omega | rfl | exact fun _ => rfl) only [num, decide_false, decide_true, Bool.false_and, Bool.true_and, Bool.and_false, Bool.not_false, Bool.not_true, vP]) | ((with_reducible first | apply gsnd | apply csnd | apply gsd | apply csd | apply gsn | apply csn | apply gs | apply cs_) <;> intro _) | (with_reducible refine objQ_i (fun _ _ => ?_); repeat with_reducible refine imp_i (fun _ => ?_)) | (with_reducible first | refine callH_use (hmay) ?_ | refine pureQ_use (hmay) ?_) | (with_reducible first | refine callH_use (hin _) ?_ | refine pureQ_use (hin _) ?_)))
      exact ⟨_, St.le.refl _, st, h0, by (refine ⟨fun i o e => ?_, fun _ h => h⟩; revert e; simp only [St.ins, St.del, add_objs, kill_objs]; (repeat' split); all_goals (first | exact id | (intros; contradiction) | (intros; subst_vars; contradiction) | (intros; simp_all; done) | (intros; subst_vars; simp_all; done)))⟩
  case pos =>
    have e : overE f a z = 0 := by unfold overE; rw [hmf, if_pos rfl, if_pos hc]
    have hh2 := hh e
    simp only [e, if_true]
    clear hmf e hh
    obtain ⟨c1, c2, c3, c4⟩ := hc
    have b1 : -1125899906842624 ≤ a ∧ -1125899906842624 ≤ z ∧ a ≤ 1125899906842624 ∧ z ≤ 1125899906842624 := by omega
    obtain ⟨b1, b2, b3, b4⟩ := b1
    have hw : IntKind.i64.wrap (z - a) = z - a := wrap_i64 _ (by omega) (by omega)
    have hr := runs_c f a z t
    unfold num at hr
    have HH := Hid.mk hh2
    clear hh2
    refine VCalls.of v_span_over_ok (Nat.le_of_ble_eq_true rfl) ?_
    simp only [v_span_over, ↓vD, vU, ↓vMd, vMu, vZ, seval, k_app, k_slc1]
    (repeat' (first | (simp (maxDischargeDepth := 16) only [*, num, decide_false, decide_true, Bool.false_and, Bool.true_and, Bool.and_false, Bool.not_false, Bool.not_true, Bool.and_self, vX, ↓vD, vU, ↓vMd, vMu, vZ, seval]) | (simp (disch := first | assumption | omega | rfl | exact fun _ => rfl) only [num, decide_false, decide_true, Bool.false_and, Bool.true_and, Bool.and_false, Bool.not_false, Bool.not_true, Bool.and_self, vP]) | ((with_reducible first | apply gsnd | apply csnd | apply gsd | apply csd | apply gsn | apply csn | apply gs | apply cs_) <;> intro _) | (with_reducible refine objQ_i (fun _ _ => ?_); repeat with_reducible refine imp_i (fun _ => ?_)) | (with_reducible first | refine callH_use (hmay) ?_ | refine pureQ_use (hmay) ?_) | (with_reducible first | refine callH_use (hin _) ?_ | refine pureQ_use (hin _) ?_) | (with_reducible first | refine callH_use (hr) ?_ | refine pureQ_use (hr) ?_)))
    rename_i b7 h7
    refine rng_iter (gf := 97) (fs := []) (by simp only [↓vD, vU, ↓vMd, vMu, vZ, seval, k_app, k_slc1]; rfl) (runs_it f (by omega) a z b1 b4 c3 t) (by intro x hx; obtain ⟨_, _, rfl⟩ := List.mem_map.1 hx; rfl) (fun j T => ∃ S, T = S.ins b7 (.cells [.clo g fs cs]) ∧ I j S ∧ S.objs b7 = none) (fun _ _ => False) ⟨st, rfl, h0, h7⟩ ?_ ?_ (by intro _ _ _ _ _ _ _ h; exact h.elim)
    · rintro Y l0 D r hzy nlD nDl j hj T ⟨S, rfl, hI, hS7⟩ hTl hTD
      simp only [ins_objs, ite_some_none] at hTl hTD
      obtain ⟨q1, q2, hSl⟩ := hTl
      obtain ⟨r1, r2, hSD⟩ := hTD
      rw [List.length_map] at hj
      simp only [List.getElem_map]
      have hcall := (HH.out j hj S hI).z hzy
      obtain ⟨it, hit⟩ : ∃ it, (runsF f a z)[j] = it := ⟨_, rfl⟩
      rw [hit] at hcall ⊢
      simp only [runA] at hcall
      clear hit
      (repeat' (first | (simp (maxDischargeDepth := 16) only [*, argsFr1_t, argsFr1_d, runA, rq_normal, vX, ↓vD, vU, ↓vMd, vMu, vZ, seval]) | (simp (disch := first | assumption | omega | rfl | exact fun _ => rfl) only [argsFr1_t, argsFr1_d, runA, rq_normal, vP]) | ((with_reducible first | apply gsnd | apply csnd | apply gsd | apply csd | apply gsn | apply csn | apply gs | apply cs_) <;> intro _) | (with_reducible refine objQ_i (fun _ _ => ?_); repeat with_reducible refine imp_i (fun _ => ?_))))
      rename_i b9 h9 m1 m2 m3 m4 m5 m6
      refine callH_then ((((hcall.frame b7 _ hS7).frame D _ (by simp only [ins_objs, kill_objs, add_objs, *, if_false, if_true, not_false_eq_true, ite_some_none, and_self, and_true, true_and])).frame b9 _ (by simp only [ins_objs, kill_objs, add_objs, *, if_false, if_true, not_false_eq_true, ite_some_none, and_self, and_true, true_and])).frame l0 _ (by simp only [ins_objs, kill_objs, add_objs, *, if_false, if_true, not_false_eq_true, ite_some_none, and_self, and_true, true_and])) ?_
      rintro v _ ⟨_, ⟨_, ⟨_, ⟨s0, hI', u7, rfl⟩, uD, rfl⟩, u9, rfl⟩, ul, rfl⟩
      simp only [ins_objs, ite_some_none] at u7 uD ul u9
      (repeat' (first | (simp (maxDischargeDepth := 16) only [*, rq_normal, vX, ↓vD, vU, ↓vMd, vMu, vZ, seval]) | (simp (disch := first | assumption | omega | rfl | exact fun _ => rfl) only [rq_normal, vP]) | ((with_reducible first | apply gsnd | apply csnd | apply gsd | apply csd | apply gsn | apply csn | apply gs | apply cs_) <;> intro _) | (with_reducible refine objQ_i (fun _ _ => ?_); repeat with_reducible refine imp_i (fun _ => ?_))))
      have v9 : s0.objs b9 = none := u9.2.2.2.2
      exact ⟨_, ⟨⟨s0, rfl, hI', u7⟩, (by simp only [ins_objs, kill_objs, add_objs, *, if_false, if_true, not_false_eq_true, ite_some_none, and_self, and_true, true_and])⟩, (by simp only [ins_objs, kill_objs, add_objs, *, if_false, if_true, not_false_eq_true, ite_some_none, and_self, and_true, true_and]), by (refine leX.start ?_ rfl; (repeat (refine leX.in_ (by simp only [*, ins_objs, if_true, if_false]; first | done | rfl) ?_)); (repeat (first | refine leX.new (by first | assumption | (rw [hob]; assumption)) ?_ | refine leX.old (by (simp only [List.mem_cons, true_or, or_true, eq_self]; done)) ?_)); exact leX.refl _ _)⟩
    · rintro D l0 o T nlD nDl ⟨S, rfl, hI, hS7⟩ hTl hTD
      simp only [ins_objs, ite_some_none] at hTl hTD
      obtain ⟨q1, q2, hSl⟩ := hTl
      obtain ⟨r1, r2, hSD⟩ := hTD
      rw [List.length_map] at hI
      (repeat' (first | (simp (maxDischargeDepth := 16) only [*, vX, ↓vD, vU, ↓vMd, vMu, vZ, seval]) | (simp (disch := first | assumption | omega | rfl | exact fun _ => rfl) only [vP]) | ((with_reducible first | apply gsnd | apply csnd | apply gsd | apply csd | apply gsn | apply csn | apply gs | apply cs_) <;> intro _) | (with_reducible refine objQ_i (fun _ _ => ?_); repeat with_reducible refine imp_i (fun _ => ?_))))
      refine ⟨_, S, rfl, ?_, by simp, by (refine ⟨fun i o e => ?_, fun _ h => h⟩; revert e; simp only [St.ins, St.del, add_objs, kill_objs]; (repeat' split); all_goals (first | exact id | (intros; contradiction) | (intros; subst_vars; contradiction) | (intros; simp_all; done) | (intros; subst_vars; simp_all; done))), S, ⟨rfl, hI⟩, St.le.refl _⟩
      intro D' hD'
      rcases List.mem_singleton.1 hD' with rfl
      exact ⟨(by simp only [ins_objs, kill_objs, add_objs, *, if_false, if_true, not_false_eq_true, ite_some_none, and_self, and_true, true_and]), hSD⟩
theorem least1_c {Z : Im} {S : St} {g : Nat} {fs cs : List AV} (ch : Vec → Vec → Vec) (hg : ∀ x y : Vec, VPure Tryd.prog g (fs ++ [x.a, y.a] ++ cs) (ch x y).a) (q : Vec × Int) (u : Vec) {b7 b8 b10 : Nat} (n1 : ¬ b7 = b8) (n2 : ¬ b7 = b10) (n3 : ¬ b8 = b10) (o8 : AObj) :
    VCalls Tryd.prog Z 77 [runA q, .ptr b7 0, .ptr b10 0] (((S.ins b7 (.cells [.clo g fs cs])).ins b8 o8).ins b10 (.cells [.int .i64 u.m, .int .i64 u.c])) (fun _ s => s = ((S.ins b7 (.cells [.clo g fs cs])).ins b8 o8).ins b10 (.cells [.int .i64 (ch u q.1).m, .int .i64 (ch u q.1).c])) := by
  have hc := hg u q.1
  simp only [Vec.a] at hc
  have n1' : ¬ b8 = b7 := fun e => n1 e.symm
  have n2' : ¬ b10 = b7 := fun e => n2 e.symm
  have n3' : ¬ b10 = b8 := fun e => n3 e.symm
  refine VCalls.of v_span_least_1_ok (Nat.le_of_ble_eq_true rfl) ?_
  simp only [v_span_least_1, ↓vD, vU, ↓vMd, vMu, vZ, seval, k_app, k_slc1]
  (repeat' (first | (simp (maxDischargeDepth := 16) only [*, runA, vX, ↓vD, vU, ↓vMd, vMu, vZ, seval]) | (simp (disch := first | assumption | omega | rfl | exact fun _ => rfl) only [runA, vP]) | ((with_reducible first | apply gsnd | apply csnd | apply gsd | apply csd | apply gsn | apply csn | apply gs | apply cs_) <;> intro _) | (with_reducible refine objQ_i (fun _ _ => ?_); repeat with_reducible refine imp_i (fun _ => ?_)) | (with_reducible first | refine callH_use (hc) ?_ | refine pureQ_use (hc) ?_)))
  all_goals first | done | exact ⟨_, by (refine ⟨fun i o e => ?_, fun _ h => h⟩; revert e; simp only [St.ins, St.del, add_objs, kill_objs]; (repeat' split); all_goals (first | exact id | (intros; contradiction) | (intros; subst_vars; contradiction) | (intros; simp_all; done) | (intros; subst_vars; simp_all; done))), rfl⟩
theorem least_c (f : List Seg) (hn : f.length ≤ 1000000) (a z : Int) (t : Tok) {g : Nat} {fs cs : List AV} (ch : Vec → Vec → Vec) (hg : ∀ x y : Vec, VPure Tryd.prog g (fs ++ [x.a, y.a] ++ cs) (ch x y).a) :
    VPure Tryd.prog 48 [.sl (f.map Seg.a) t, num a, num z, .clo g fs cs] (.tup [(if overE f a z = 0 then leastF ch f a z else v0).a, num (overE f a z)]) := fun Z st => by
  have hAt := At_v f (by omega) t a
  obtain ⟨L, hL⟩ : ∃ L, runsF f a z = L := ⟨_, rfl⟩
  obtain ⟨u0, hu0⟩ : ∃ u, atF f a = u := ⟨_, rfl⟩
  have HF : Hid (leastF ch f a z = L.foldl (fun o q => ch o q.1) u0) := ⟨by unfold leastF; rw [hL, hu0]⟩
  have HL := Hid.mk hL
  rw [hu0] at hAt
  clear hL hu0
  refine VCalls.of v_span_least_ok (Nat.le_of_ble_eq_true rfl) ?_
  simp only [v_span_least, ↓vD, vU, ↓vMd, vMu, vZ, seval, k_app, k_slc1]
  (repeat' (first | (simp (maxDischargeDepth := 16) only [*, num, vX, ↓vD, vU, ↓vMd, vMu, vZ, seval]) | (simp (disch := first | assumption | omega | rfl | exact fun _ => rfl) only [num, vP]) | ((with_reducible first | apply gsnd | apply csnd | apply gsd | apply csd | apply gsn | apply csn | apply gs | apply cs_) <;> intro _) | (with_reducible refine objQ_i (fun _ _ => ?_); repeat with_reducible refine imp_i (fun _ => ?_)) | (with_reducible first | refine callH_use (hAt) ?_ | refine pureQ_use (hAt) ?_)))
  rename_i b7 h7 b8 h8 n1 n2 b10 h10 n3 n4 n5 n6
  have ho := over_c (Z := Z) (st := ((st.ins b7 (.cells [.clo g fs cs])).ins b8 (.cells [.int .i64 0, .int .i64 0])).ins b10 (.cells [.int .i64 u0.m, .int .i64 u0.c])) f hn a z t (g := 77) (fs := []) (cs := [.ptr b7 0, .ptr b10 0])
    (fun k S => S = ((st.ins b7 (.cells [.clo g fs cs])).ins b8 (.cells [.int .i64 0, .int .i64 0])).ins b10 (.cells [.int .i64 ((L.take k).foldl (fun o q => ch o q.1) u0).m, .int .i64 ((L.take k).foldl (fun o q => ch o q.1) u0).c])) rfl (fun he k hk S hS => by
      subst hS
      refine (least1_c ch hg (runsF f a z)[k] ((L.take k).foldl (fun o q => ch o q.1) u0) n2 n4 n6 _).mono ?_
      rintro v s rfl
      rw [List.take_add_one]
      have hk2 : k < L.length := by rw [← HL.out]; exact hk
      rw [List.getElem?_eq_getElem hk2, List.foldl_append]
      simp only [HL.out, Option.toList, List.foldl_cons, List.foldl_nil])
  rw [HL.out, List.take_length, ← HF.out] at ho
  unfold num at ho
  refine callH_then ho ?_
  rintro _ s ⟨rfl, hI⟩
  clear ho
  obtain ⟨e, he⟩ : ∃ e, overE f a z = e := ⟨_, rfl⟩
  rw [he] at hI ⊢
  obtain ⟨w, hw⟩ : ∃ w, leastF ch f a z = w := ⟨_, rfl⟩
  rw [hw] at hI ⊢
  by_cases h0 : e = 0
  · subst h0
    rw [if_pos rfl] at hI ⊢
    subst hI
    clear HF hw he
    (repeat' (first | (simp (maxDischargeDepth := 16) only [*, Vec.a, vX, ↓vD, vU, ↓vMd, vMu, vZ, seval]) | (simp (disch := first | assumption | omega | rfl | exact fun _ => rfl) only [Vec.a, vP]) | ((with_reducible first | apply gsnd | apply csnd | apply gsd | apply csd | apply gsn | apply csn | apply gs | apply cs_) <;> intro _) | (with_reducible refine objQ_i (fun _ _ => ?_); repeat with_reducible refine imp_i (fun _ => ?_))))
    all_goals first | done | exact ⟨_, by (refine ⟨fun i o e => ?_, fun _ h => h⟩; revert e; simp only [St.ins, St.del, add_objs, kill_objs]; (repeat' split); all_goals (first | exact id | (intros; contradiction) | (intros; subst_vars; contradiction) | (intros; simp_all; done) | (intros; subst_vars; simp_all; done))), rfl⟩
  · rw [if_neg h0] at hI ⊢
    subst hI
    clear HF hw he
    (repeat' (first | (simp (maxDischargeDepth := 16) only [*, Vec.a, vX, ↓vD, vU, ↓vMd, vMu, vZ, seval]) | (simp (disch := first | assumption | omega | rfl | exact fun _ => rfl) only [Vec.a, vP]) | ((with_reducible first | apply gsnd | apply csnd | apply gsd | apply csd | apply gsn | apply csn | apply gs | apply cs_) <;> intro _) | (with_reducible refine objQ_i (fun _ _ => ?_); repeat with_reducible refine imp_i (fun _ => ?_))))
    all_goals rfl
theorem Low_c (f : List Seg) (hn : f.length ≤ 1000000) (a z : Int) (t : Tok) :
    VPure Tryd.prog 26 [.sl (f.map Seg.a) t, num a, num z] (.tup [(if overE f a z = 0 then leastF minV f a z else v0).a, num (overE f a z)]) := by
  have h := least_c f hn a z t (g := 39) (fs := []) (cs := []) minV (fun x y => Min_v x.m x.c y.m y.c)
  obtain ⟨q, hq⟩ : ∃ q, (if overE f a z = 0 then leastF minV f a z else v0) = q := ⟨_, rfl⟩
  rw [hq] at h ⊢
  clear hq
  simp only [num, Vec.a] at h
  refine VPure.of v_span_Low_ok (Nat.le_of_ble_eq_true rfl) (fun Z st => ?_)
  simp only [v_span_Low, ↓vD, vU, ↓vMd, vMu, vZ, seval, k_app, k_slc1]
  (repeat' (first | (simp (maxDischargeDepth := 16) only [*, num, Vec.a, vX, ↓vD, vU, ↓vMd, vMu, vZ, seval]) | (simp (disch := first | assumption | omega | rfl | exact fun _ => rfl) only [num, Vec.a, vP]) | ((with_reducible first | apply gsnd | apply csnd | apply gsd | apply csd | apply gsn | apply csn | apply gs | apply cs_) <;> intro _) | (with_reducible refine objQ_i (fun _ _ => ?_); repeat with_reducible refine imp_i (fun _ => ?_)) | (with_reducible first | refine callH_use (h) ?_ | refine pureQ_use (h) ?_)))
end Go.Proofs.YtglekfgoadehbaaDoor.V
end
section
set_option linter.unusedSimpArgs false
set_option linter.unusedVariables false
/- The compiled functions of the package fit (printed by Print.lean of this work). -/
namespace Go.Proofs.YtglekfgoadehbaaDoor.V
open Go Go.Proofs
def v_fit_Free : VFn := ⟨.seq (.reg [⟨some 10, .mov (.c (.sl [] .full)), none, [], []⟩,
 ⟨some 11, .mov (.c (.int .i64 0)), none, [0], []⟩])
(.seq (.seq (.reg [⟨some 13, .mov (.t 0), none, [], []⟩,
 ⟨some 14, .mov (.t 1), none, [], []⟩,
 ⟨some 15, .mov (.t 2), none, [], []⟩,
 ⟨some 16, .mov (.t 4), none, [], []⟩,
 ⟨some 17, .build [(.sl [] .full), (.sl [] .full), (.sl [] .full), (.int .i64 0)] [(0, 1, (.t 13)), (1, 1, (.t 14)), (2, 1, (.t 15)), (3, 1, (.t 16))], none, [0, 1, 2, 3], []⟩,
 ⟨some 18, .mov (.t 3), none, [], []⟩,
 ⟨some 19, .call 21 [(.t 17), (.t 18)], none, [4, 5], []⟩,
 ⟨some 12, .mov (.t 19), none, [6, 6, 0, 1, 2, 3, 4, 5, 6], []⟩])
(.seq (.reg [⟨some 20, .mov (.t 12), none, [], []⟩,
 ⟨some 21, .bin .neq (.t 20) (.c (.int .i64 0)), none, [0], []⟩])
(.cond (.t 21)
 (.seq (.reg [⟨some 22, .mov (.t 12), none, [], []⟩,
 ⟨some 10, .mov (.c (.sl [] .full)), none, [], []⟩,
 ⟨some 11, .mov (.t 22), none, [0, 1, 0, 1], []⟩])
 (.ret))
 (.skip))))
(.seq (.reg [⟨some 23, .mov (.t 0), none, [], []⟩,
 ⟨some 24, .mov (.t 4), none, [], []⟩,
 ⟨some 25, .call 23 [(.t 23), (.t 24)], none, [0, 1], []⟩,
 ⟨some 26, .mov (.t 1), none, [], []⟩,
 ⟨some 27, .mov (.t 4), none, [], []⟩,
 ⟨some 28, .call 23 [(.t 26), (.t 27)], none, [3, 4, 2], []⟩,
 ⟨some 29, .mov (.t 2), none, [], []⟩,
 ⟨some 30, .mov (.t 4), none, [], []⟩,
 ⟨some 31, .call 23 [(.t 29), (.t 30)], none, [6, 7, 5], []⟩,
 ⟨some 32, .mov (.t 4), none, [], []⟩,
 ⟨some 33, .build [(.sl [] .full), (.sl [] .full), (.sl [] .full), (.int .i64 0)] [(0, 1, (.t 25)), (1, 1, (.t 28)), (2, 1, (.t 31)), (3, 1, (.t 32))], none, [2, 5, 8, 9], []⟩,
 ⟨some 34, .mov (.t 3), none, [], []⟩,
 ⟨some 35, .call 22 [(.t 33), (.t 34)], none, [10, 11, 8], []⟩,
 ⟨some 36, .ext (.t 35) 0, none, [12], []⟩,
 ⟨some 37, .ext (.t 35) 1, none, [12], []⟩,
 ⟨some 10, .mov (.t 36), none, [13, 12, 0, 1, 2, 3, 4, 5, 6, 7, 8, 9, 10, 11, 12, 13, 14], []⟩,
 ⟨some 11, .mov (.t 37), none, [14, 15, 0, 1, 2, 3, 4, 5, 6, 7, 8, 9, 10, 11, 12, 13, 14, 15], []⟩])
(.ret))),
[.t 10, .t 11], 38⟩
theorem v_fit_Free_ok : compF Tryd.prog 8 = some v_fit_Free := by kernel_rfl
def v_fit_Fits : VFn := ⟨.seq (.reg [⟨some 4, .box (.t 0), none, [], []⟩,
 ⟨some 5, .box (.t 1), none, [], []⟩,
 ⟨some 6, .box (.t 2), none, [], []⟩,
 ⟨some 7, .box (.t 3), none, [], []⟩,
 ⟨some 8, .alloc [(.bool false)], none, [], []⟩,
 ⟨some 9, .mov (.c (.int .i64 0)), none, [], []⟩])
(.seq (.reg [⟨some 10, .load 1 false (.t 4), none, [], []⟩,
 ⟨some 11, .load 1 false (.t 5), none, [], []⟩,
 ⟨some 12, .load 1 false (.t 6), none, [], []⟩,
 ⟨some 13, .load 2 true (.t 7), none, [], []⟩,
 ⟨some 14, .mkf 25 [] [(.t 4), (.t 5), (.t 6), (.t 7), (.t 8)], none, [], []⟩,
 ⟨some 15, .call 24 [(.t 10), (.t 11), (.t 12), (.t 13), (.t 14)], none, [0, 1, 2, 3, 4], []⟩,
 ⟨some 9, .mov (.t 15), none, [5, 5, 0, 1, 2, 3, 4, 5], []⟩])
(.seq (.reg [⟨some 16, .load 1 false (.t 8), none, [], []⟩,
 ⟨some 17, .mov (.t 9), none, [], []⟩,
 ⟨none, .store 1 (.t 8) (.t 16), none, [0, 0], []⟩,
 ⟨some 9, .mov (.t 17), none, [1, 2, 0, 1, 2], []⟩])
(.ret))),
[.c 8 1 false, .t 9], 18⟩
theorem v_fit_Fits_ok : compF Tryd.prog 9 = some v_fit_Fits := by kernel_rfl
def v_fit_Take : VFn := ⟨.seq (.reg [⟨some 4, .box (.t 0), none, [], []⟩,
 ⟨some 5, .box (.t 1), none, [], []⟩,
 ⟨some 6, .box (.t 2), none, [], []⟩,
 ⟨some 7, .box (.t 3), none, [], []⟩,
 ⟨some 8, .alloc [(.sl [] .full)], none, [], []⟩,
 ⟨some 9, .mov (.c (.int .i64 0)), none, [], []⟩])
(.seq (.reg [⟨some 10, .load 1 false (.t 4), none, [], []⟩,
 ⟨some 11, .load 1 false (.t 5), none, [], []⟩,
 ⟨some 12, .load 1 false (.t 6), none, [], []⟩,
 ⟨some 13, .load 2 true (.t 7), none, [], []⟩,
 ⟨some 14, .mkf 32 [] [(.t 4), (.t 5), (.t 6), (.t 7), (.t 8)], none, [], []⟩,
 ⟨some 15, .call 24 [(.t 10), (.t 11), (.t 12), (.t 13), (.t 14)], none, [0, 1, 2, 3, 4], []⟩,
 ⟨some 9, .mov (.t 15), none, [5, 5, 0, 1, 2, 3, 4, 5], []⟩])
(.seq (.reg [⟨some 16, .load 1 false (.t 8), none, [], []⟩,
 ⟨some 17, .mov (.t 9), none, [], []⟩,
 ⟨none, .store 1 (.t 8) (.t 16), none, [0, 0], []⟩,
 ⟨some 9, .mov (.t 17), none, [1, 2, 0, 1, 2], []⟩])
(.ret))),
[.c 8 1 false, .t 9], 18⟩
theorem v_fit_Take_ok : compF Tryd.prog 14 = some v_fit_Take := by kernel_rfl
def v_fit_Most : VFn := ⟨.seq (.reg [⟨some 4, .box (.t 0), none, [], []⟩,
 ⟨some 5, .box (.t 1), none, [], []⟩,
 ⟨some 6, .box (.t 2), none, [], []⟩,
 ⟨some 7, .box (.t 3), none, [], []⟩,
 ⟨some 8, .alloc [(.int .i64 0)], none, [], []⟩,
 ⟨some 9, .mov (.c (.int .i64 0)), none, [], []⟩])
(.seq (.seq (.reg [⟨some 10, .load 1 false (.t 4), none, [], []⟩,
 ⟨some 11, .call 33 [(.t 10)], none, [0], []⟩,
 ⟨some 12, .mov (.t 11), none, [1, 1], []⟩,
 ⟨some 13, .fad 0 (.t 7), some (12, true), [2], []⟩,
 ⟨some 14, .load 1 false (.t 13), some (12, true), [3, 2], []⟩,
 ⟨some 15, .fad 1 (.t 7), some (12, true), [2], []⟩,
 ⟨some 16, .load 1 false (.t 15), some (12, true), [5, 2], []⟩,
 ⟨some 17, .mnx true (.t 14) [(.t 16)], some (12, true), [4, 6, 2], []⟩,
 ⟨some 18, .bin .lss (.t 17) (.c (.int .i64 1)), some (12, true), [7, 2], []⟩,
 ⟨some 19, .pick (.t 12) (.t 18) (.c (.bool false)), none, [2, 8], []⟩])
(.cond (.t 19)
 (.seq (.reg [⟨none, .store 1 (.t 8) (.c (.int .i64 0)), none, [], []⟩,
 ⟨some 9, .mov (.c (.int .i64 2)), none, [0, 0], []⟩])
 (.ret))
 (.skip)))
(.seq (.reg [⟨some 20, .load 1 false (.t 4), none, [], []⟩,
 ⟨some 21, .load 1 false (.t 5), none, [], []⟩,
 ⟨some 22, .load 1 false (.t 6), none, [], []⟩,
 ⟨some 23, .load 2 true (.t 7), none, [], []⟩,
 ⟨some 24, .mkf 34 [] [(.t 4), (.t 5), (.t 6), (.t 7), (.t 8)], none, [], []⟩,
 ⟨some 25, .call 24 [(.t 20), (.t 21), (.t 22), (.t 23), (.t 24)], none, [0, 1, 2, 3, 4], []⟩,
 ⟨some 9, .mov (.t 25), none, [5, 5, 0, 1, 2, 3, 4, 5], []⟩])
(.seq (.reg [⟨some 26, .load 1 false (.t 8), none, [], []⟩,
 ⟨some 27, .mov (.t 9), none, [], []⟩,
 ⟨none, .store 1 (.t 8) (.t 26), none, [0, 0], []⟩,
 ⟨some 9, .mov (.t 27), none, [1, 2, 0, 1, 2], []⟩])
(.ret)))),
[.c 8 1 false, .t 9], 28⟩
theorem v_fit_Most_ok : compF Tryd.prog 16 = some v_fit_Most := by kernel_rfl
def v_fit_check : VFn := ⟨.seq (.reg [⟨some 2, .box (.t 0), none, [], []⟩,
 ⟨some 4, .mov (.c (.int .i64 0)), none, [], []⟩])
(.seq (.seq (.reg [⟨some 8, .fad 0 (.t 2), none, [], []⟩,
 ⟨some 9, .load 1 false (.t 8), none, [0], []⟩,
 ⟨some 10, .fad 1 (.t 2), none, [], []⟩,
 ⟨some 11, .load 1 false (.t 10), none, [2], []⟩,
 ⟨some 12, .fad 2 (.t 2), none, [], []⟩,
 ⟨some 13, .load 1 false (.t 12), none, [4], []⟩,
 ⟨some 14, .bsl 1 [(.t 9), (.t 11), (.t 13)], none, [1, 3, 5], []⟩,
 ⟨some 15, .call 41 [(.t 14)], none, [6], []⟩,
 ⟨some 16, .un .not (.t 15), none, [7], []⟩])
(.cond (.t 16)
 (.seq (.reg [⟨some 4, .mov (.c (.int .i64 5)), none, [], []⟩])
 (.ret))
 (.skip)))
(.seq (.reg [⟨some 17, .fad 3 (.t 2), none, [], []⟩,
 ⟨some 18, .load 1 false (.t 17), none, [0], []⟩,
 ⟨some 19, .call 42 [(.t 18)], none, [1], []⟩,
 ⟨some 5, .mov (.t 19), none, [2, 2, 0, 1, 2], []⟩])
(.seq (.seq (.reg [⟨some 20, .mov (.t 1), none, [], []⟩,
 ⟨some 21, .len (.t 20), none, [0], []⟩,
 ⟨some 22, .mov (.c (.int .i64 0)), none, [], []⟩])
(.block 0
 (.loop
 (.seq (.reg [⟨some 23, .bin .lss (.t 22) (.t 21), none, [], []⟩])
 (.seq (.cond (.t 23)
 (.skip)
 (.exit 0))
 (.seq (.block 1
 (.seq (.reg [⟨some 24, .iad 4 (.t 20) (.t 22), none, [], []⟩,
 ⟨some 25, .load 4 true (.t 24), none, [0], []⟩,
 ⟨some 7, .alloc [(.int .u8 0), (.int .i64 0), (.int .i64 0), (.int .i64 0)], none, [], []⟩,
 ⟨none, .store 4 (.t 7) (.t 25), none, [2, 1, 0, 1, 2], []⟩])
 (.seq (.seq (.reg [⟨some 26, .fad 0 (.t 7), none, [], []⟩,
 ⟨some 27, .load 1 false (.t 26), none, [0], []⟩,
 ⟨some 28, .bin .gtr (.t 27) (.c (.int .u8 2)), none, [1], []⟩])
 (.cond (.t 28)
 (.seq (.reg [⟨some 4, .mov (.c (.int .i64 2)), none, [], []⟩])
 (.ret))
 (.skip)))
 (.reg [⟨some 29, .mov (.t 5), none, [], []⟩,
 ⟨some 30, .mov (.t 29), none, [0], []⟩,
 ⟨some 31, .fad 0 (.t 7), some (30, false), [1], []⟩,
 ⟨some 32, .load 1 false (.t 31), some (30, false), [2, 1], []⟩,
 ⟨some 33, .bin .eql (.t 32) (.c (.int .u8 1)), some (30, false), [3, 1], []⟩,
 ⟨some 34, .mov (.t 33), some (30, false), [4, 1, 1], []⟩,
 ⟨some 35, .fad 1 (.t 7), some (34, true), [5], []⟩,
 ⟨some 36, .load 2 true (.t 35), some (34, true), [6, 5], []⟩,
 ⟨some 37, .call 43 [(.t 36)], some (34, true), [7, 5, 5], []⟩,
 ⟨some 38, .un .not (.t 37), some (34, true), [8, 5], []⟩,
 ⟨some 39, .pick (.t 34) (.t 38) (.c (.bool false)), some (30, false), [5, 9, 1], []⟩,
 ⟨some 40, .pick (.t 30) (.c (.bool true)) (.t 39), none, [1, 10], []⟩,
 ⟨some 5, .mov (.t 40), none, [11, 8, 0, 1, 2, 3, 4, 5, 6, 7, 8, 9, 10, 11], []⟩]))))
 (.reg [⟨some 41, .bin .add (.t 22) (.c (.int .i64 1)), none, [], []⟩,
 ⟨some 22, .mov (.t 41), none, [0], []⟩])))))))
(.seq (.seq (.reg [⟨some 42, .mov (.t 5), none, [], []⟩])
(.cond (.t 42)
 (.seq (.reg [⟨some 4, .mov (.c (.int .i64 10)), none, [], []⟩])
 (.ret))
 (.skip)))
(.seq (.reg [⟨some 4, .mov (.c (.int .i64 0)), none, [], []⟩])
(.ret)))))),
[.t 4], 43⟩
theorem v_fit_check_ok : compF Tryd.prog 21 = some v_fit_check := by kernel_rfl
def v_fit_all : VFn := ⟨.seq (.reg [⟨some 2, .box (.t 0), none, [], []⟩,
 ⟨some 4, .mov (.c (.sl [] .full)), none, [], []⟩,
 ⟨some 5, .mov (.c (.int .i64 0)), none, [1], []⟩])
(.seq (.reg [⟨some 11, .load 2 true (.c (.iptr (.agg [(.int .i64 1125899906842624), (.int .i64 1125899906842624)]) 0)), none, [], []⟩,
 ⟨some 12, .fad 3 (.t 2), none, [], []⟩,
 ⟨some 13, .load 1 false (.t 12), none, [1], []⟩,
 ⟨some 14, .call 44 [(.t 11), (.t 13)], none, [0, 2], []⟩,
 ⟨some 6, .mov (.t 14), none, [3, 3, 0, 1, 2, 3], []⟩])
(.seq (.seq (.reg [⟨some 15, .mov (.t 1), none, [], []⟩,
 ⟨some 16, .len (.t 15), none, [0], []⟩,
 ⟨some 17, .mov (.c (.int .i64 0)), none, [], []⟩])
(.block 0
 (.loop
 (.seq (.reg [⟨some 18, .bin .lss (.t 17) (.t 16), none, [], []⟩])
 (.seq (.cond (.t 18)
 (.skip)
 (.exit 0))
 (.seq (.block 1
 (.seq (.reg [⟨some 19, .iad 4 (.t 15) (.t 17), none, [], []⟩,
 ⟨some 20, .load 4 true (.t 19), none, [0], []⟩,
 ⟨some 8, .alloc [(.int .u8 0), (.int .i64 0), (.int .i64 0), (.int .i64 0)], none, [], []⟩,
 ⟨none, .store 4 (.t 8) (.t 20), none, [2, 1, 0, 1, 2], []⟩])
 (.seq (.dreg [⟨some 22, .call 45 [], none, [], []⟩,
 ⟨some 23, .fad 0 (.t 8), none, [], []⟩,
 ⟨some 24, .load 1 false (.t 23), none, [1], []⟩,
 ⟨some 25, .ixa 3 1 true (.t 22) (.t 24), none, [0, 2], []⟩,
 ⟨some 26, .fld 0 1 false (.t 25), none, [3], []⟩,
 ⟨some 27, .load 4 true (.t 2), none, [], []⟩,
 ⟨some 28, .load 4 true (.t 8), none, [], []⟩,
 ⟨some 29, .callv (.t 26) [(.t 27), (.t 28)], none, [4, 5, 6, 0], [(0, 0)]⟩,
 ⟨some 21, .mov (.t 29), none, [7], []⟩,
 ⟨some 30, .ext (.t 21) 0, none, [8], []⟩,
 ⟨some 31, .ext (.t 21) 1, none, [8], []⟩,
 ⟨some 9, .mov (.t 30), none, [9, 7, 0, 1, 2, 3, 4, 5, 6, 7, 8, 9], []⟩,
 ⟨some 10, .mov (.t 31), none, [10, 11, 0, 1, 2, 3, 4, 5, 6, 7, 8, 9, 10, 11], []⟩])
 (.seq (.seq (.reg [⟨some 32, .mov (.t 10), none, [], []⟩,
 ⟨some 33, .bin .neq (.t 32) (.c (.int .i64 0)), none, [0], []⟩])
 (.cond (.t 33)
 (.seq (.reg [⟨some 34, .mov (.t 10), none, [], []⟩,
 ⟨some 4, .mov (.c (.sl [] .full)), none, [], []⟩,
 ⟨some 5, .mov (.t 34), none, [0, 1, 0, 1], []⟩])
 (.ret))
 (.skip)))
 (.seq (.reg [⟨some 36, .mov (.t 6), none, [], []⟩,
 ⟨some 37, .mov (.t 9), none, [], []⟩,
 ⟨some 38, .call 19 [(.t 36), (.t 37)], none, [0, 1], []⟩,
 ⟨some 35, .mov (.t 38), none, [2], []⟩,
 ⟨some 39, .ext (.t 35) 0, none, [3], []⟩,
 ⟨some 40, .ext (.t 35) 1, none, [3], []⟩,
 ⟨some 6, .mov (.t 39), none, [4, 2, 0, 1, 2, 3, 4], []⟩,
 ⟨some 10, .mov (.t 40), none, [5, 6, 0, 1, 2, 3, 4, 5, 6], []⟩])
 (.seq (.reg [⟨some 41, .mov (.t 10), none, [], []⟩,
 ⟨some 42, .bin .neq (.t 41) (.c (.int .i64 0)), none, [0], []⟩])
 (.cond (.t 42)
 (.seq (.reg [⟨some 43, .mov (.t 10), none, [], []⟩,
 ⟨some 4, .mov (.c (.sl [] .full)), none, [], []⟩,
 ⟨some 5, .mov (.t 43), none, [0, 1, 0, 1], []⟩])
 (.ret))
 (.skip))))))))
 (.reg [⟨some 44, .bin .add (.t 17) (.c (.int .i64 1)), none, [], []⟩,
 ⟨some 17, .mov (.t 44), none, [0], []⟩])))))))
(.seq (.reg [⟨some 45, .mov (.t 6), none, [], []⟩,
 ⟨some 4, .mov (.t 45), none, [0, 0], []⟩,
 ⟨some 5, .mov (.c (.int .i64 0)), none, [1, 0, 1], []⟩])
(.ret)))),
[.t 4, .t 5], 46⟩
theorem v_fit_all_ok : compF Tryd.prog 22 = some v_fit_all := by kernel_rfl
def v_fit_behind : VFn := ⟨.seq (.reg [⟨some 4, .mov (.c (.sl [] .full)), none, [], []⟩])
(.seq (.reg [⟨some 10, .mov (.t 1), none, [], []⟩,
 ⟨some 11, .mov (.t 0), none, [], []⟩,
 ⟨some 12, .mov (.t 1), none, [], []⟩,
 ⟨some 13, .call 46 [(.t 11), (.t 12)], none, [1, 2], []⟩,
 ⟨some 14, .build [(.int .i64 0), (.int .i64 0), (.int .i64 0)] [(0, 1, (.t 10)), (1, 2, (.t 13))], none, [0, 3], []⟩,
 ⟨some 15, .bsl 3 [(.t 14)], none, [4], []⟩,
 ⟨some 5, .mov (.t 15), none, [5, 3, 0, 1, 2, 3, 4, 5], []⟩])
(.seq (.seq (.reg [⟨some 16, .mov (.t 0), none, [], []⟩,
 ⟨some 17, .len (.t 16), none, [0], []⟩,
 ⟨some 18, .mov (.c (.int .i64 0)), none, [], []⟩])
(.block 0
 (.loop
 (.seq (.reg [⟨some 19, .bin .lss (.t 18) (.t 17), none, [], []⟩])
 (.seq (.cond (.t 19)
 (.skip)
 (.exit 0))
 (.seq (.block 1
 (.seq (.reg [⟨some 20, .iad 3 (.t 16) (.t 18), none, [], []⟩,
 ⟨some 21, .load 3 true (.t 20), none, [0], []⟩,
 ⟨some 7, .alloc [(.int .i64 0), (.int .i64 0), (.int .i64 0)], none, [], []⟩,
 ⟨none, .store 3 (.t 7) (.t 21), none, [2, 1, 0, 1, 2], []⟩])
 (.seq (.reg [⟨some 22, .fad 0 (.t 7), none, [], []⟩,
 ⟨some 23, .load 1 false (.t 22), none, [0], []⟩,
 ⟨some 24, .mov (.t 1), none, [], []⟩,
 ⟨some 25, .bin .gtr (.t 23) (.t 24), none, [1, 2], []⟩])
 (.cond (.t 25)
 (.reg [⟨some 26, .mov (.t 5), none, [], []⟩,
 ⟨some 27, .load 3 true (.t 7), none, [], []⟩,
 ⟨some 28, .bsl 3 [(.t 27)], none, [1], []⟩,
 ⟨some 29, .app 3 24 (.t 26) (.t 28), none, [0, 2], []⟩,
 ⟨some 5, .mov (.t 29), none, [3, 3, 0, 1, 2, 3], []⟩])
 (.skip)))))
 (.reg [⟨some 30, .bin .add (.t 18) (.c (.int .i64 1)), none, [], []⟩,
 ⟨some 18, .mov (.t 30), none, [0], []⟩])))))))
(.seq (.reg [⟨some 32, .mov (.t 5), none, [], []⟩,
 ⟨some 33, .call 47 [(.t 32)], none, [0], []⟩,
 ⟨some 31, .mov (.t 33), none, [1], []⟩,
 ⟨some 34, .ext (.t 31) 0, none, [2], []⟩,
 ⟨some 35, .ext (.t 31) 1, none, [2], []⟩,
 ⟨some 8, .mov (.t 34), none, [3, 1, 0, 1, 2, 3], []⟩,
 ⟨some 9, .mov (.t 35), none, [4, 5, 0, 1, 2, 3, 4, 5], []⟩])
(.seq (.reg [⟨some 36, .mov (.t 8), none, [], []⟩,
 ⟨some 4, .mov (.t 36), none, [0, 0], []⟩])
(.ret))))),
[.t 4], 37⟩
theorem v_fit_behind_ok : compF Tryd.prog 23 = some v_fit_behind := by kernel_rfl
def v_fit_window : VFn := ⟨.seq (.reg [⟨some 8, .box (.t 3), none, [], []⟩,
 ⟨some 10, .mov (.c (.int .i64 0)), none, [], []⟩])
(.seq (.block 0
 (.seq (.reg [⟨some 12, .mov (.t 0), none, [], []⟩,
 ⟨some 13, .call 33 [(.t 12)], none, [0], []⟩,
 ⟨some 14, .un .not (.t 13), none, [1], []⟩,
 ⟨some 11, .mov (.t 14), none, [2, 1], []⟩])
 (.cond (.t 11)
 (.seq (.reg [⟨some 10, .mov (.c (.int .i64 5)), none, [], []⟩])
 (.ret))
 (.seq (.reg [⟨some 16, .mov (.t 2), none, [], []⟩,
 ⟨some 17, .bin .lss (.t 16) (.c (.int .i64 1)), none, [0], []⟩,
 ⟨some 18, .mov (.t 17), none, [1], []⟩,
 ⟨some 19, .mov (.t 2), some (18, false), [2], []⟩,
 ⟨some 20, .bin .gtr (.t 19) (.c (.int .i64 4096)), some (18, false), [3, 2], []⟩,
 ⟨some 21, .pick (.t 18) (.c (.bool true)) (.t 20), none, [2, 4], []⟩,
 ⟨some 15, .mov (.t 21), none, [5, 2], []⟩])
 (.cond (.t 15)
 (.seq (.reg [⟨some 10, .mov (.c (.int .i64 2)), none, [], []⟩])
 (.ret))
 (.seq (.reg [⟨some 23, .mov (.t 1), none, [], []⟩,
 ⟨some 24, .call 42 [(.t 23)], none, [0], []⟩,
 ⟨some 25, .mov (.t 24), none, [1, 1], []⟩,
 ⟨some 26, .load 2 true (.t 8), some (25, false), [2], []⟩,
 ⟨some 27, .call 43 [(.t 26)], some (25, false), [3, 2, 2], []⟩,
 ⟨some 28, .un .not (.t 27), some (25, false), [4, 2], []⟩,
 ⟨some 29, .pick (.t 25) (.c (.bool true)) (.t 28), none, [2, 5], []⟩,
 ⟨some 22, .mov (.t 29), none, [6, 4], []⟩])
 (.cond (.t 22)
 (.seq (.reg [⟨some 10, .mov (.c (.int .i64 10)), none, [], []⟩])
 (.ret))
 (.skip))))))))
(.seq (.reg [⟨some 30, .mov (.t 4), none, [], []⟩,
 ⟨some 31, .callv (.t 30) [], none, [0], []⟩,
 ⟨some 10, .mov (.t 31), none, [1, 1, 0, 1], []⟩])
(.ret))),
[.t 10], 32⟩
theorem v_fit_window_ok : compF Tryd.prog 24 = some v_fit_window := by kernel_rfl
def v_fit_Fits_1 : VFn := ⟨.seq (.reg [⟨some 5, .mov (.c (.int .i64 0)), none, [], []⟩])
(.seq (.reg [⟨some 9, .load 1 false (.t 0), none, [], []⟩,
 ⟨some 10, .load 1 false (.t 1), none, [], []⟩,
 ⟨some 11, .load 1 false (.t 1), none, [], []⟩,
 ⟨some 12, .load 1 false (.t 2), none, [], []⟩,
 ⟨some 13, .bin .add (.t 11) (.t 12), none, [2, 3], []⟩,
 ⟨some 14, .call 26 [(.t 9), (.t 10), (.t 13)], none, [0, 1, 4], []⟩,
 ⟨some 8, .mov (.t 14), none, [5], []⟩,
 ⟨some 15, .ext (.t 8) 0, none, [6], []⟩,
 ⟨some 16, .ext (.t 8) 1, none, [6], []⟩,
 ⟨some 6, .alloc [(.int .i64 0), (.int .i64 0)], none, [], []⟩,
 ⟨none, .store 2 (.t 6) (.t 15), none, [9, 7, 5, 0, 1, 2, 3, 4, 5, 6, 7, 9], []⟩,
 ⟨some 7, .mov (.t 16), none, [8, 10, 0, 1, 2, 3, 4, 5, 6, 7, 8, 9, 10], []⟩])
(.seq (.reg [⟨some 17, .mov (.t 7), none, [], []⟩,
 ⟨some 18, .bin .eql (.t 17) (.c (.int .i64 0)), none, [0], []⟩,
 ⟨some 19, .mov (.t 18), none, [1], []⟩,
 ⟨some 20, .load 2 true (.t 3), some (19, true), [2], []⟩,
 ⟨some 21, .load 2 true (.t 6), some (19, true), [2], []⟩,
 ⟨some 22, .call 27 [(.t 20), (.t 21)], some (19, true), [3, 4, 2, 2], []⟩,
 ⟨some 23, .pick (.t 19) (.t 22) (.c (.bool false)), none, [2, 5], []⟩,
 ⟨none, .store 1 (.t 4) (.t 23), none, [6, 5, 0, 1, 2, 3, 4, 5, 6], []⟩])
(.seq (.reg [⟨some 24, .mov (.t 7), none, [], []⟩,
 ⟨some 5, .mov (.t 24), none, [0, 0], []⟩])
(.ret)))),
[.t 5], 25⟩
theorem v_fit_Fits_1_ok : compF Tryd.prog 25 = some v_fit_Fits_1 := by kernel_rfl
def v_fit_Take_1 : VFn := ⟨.seq (.reg [⟨some 5, .mov (.c (.int .i64 0)), none, [], []⟩])
(.seq (.reg [⟨some 6, .mov (.c (.int .i64 0)), none, [], []⟩])
(.seq (.reg [⟨some 8, .load 1 false (.t 0), none, [], []⟩,
 ⟨some 9, .load 1 false (.t 1), none, [], []⟩,
 ⟨some 10, .load 1 false (.t 1), none, [], []⟩,
 ⟨some 11, .load 1 false (.t 2), none, [], []⟩,
 ⟨some 12, .bin .add (.t 10) (.t 11), none, [2, 3], []⟩,
 ⟨some 13, .fad 0 (.t 3), none, [], []⟩,
 ⟨some 14, .load 1 false (.t 13), none, [5], []⟩,
 ⟨some 15, .un .neg (.t 14), none, [6], []⟩,
 ⟨some 16, .fad 1 (.t 3), none, [], []⟩,
 ⟨some 17, .load 1 false (.t 16), none, [8], []⟩,
 ⟨some 18, .un .neg (.t 17), none, [9], []⟩,
 ⟨some 19, .build [(.int .i64 0), (.int .i64 0)] [(0, 1, (.t 15)), (1, 1, (.t 18))], none, [7, 10], []⟩,
 ⟨some 20, .call 10 [(.t 8), (.t 9), (.t 12), (.t 19)], none, [0, 1, 4, 11], []⟩,
 ⟨some 7, .mov (.t 20), none, [12], []⟩,
 ⟨some 21, .ext (.t 7) 0, none, [13], []⟩,
 ⟨some 22, .ext (.t 7) 1, none, [13], []⟩,
 ⟨none, .store 1 (.t 4) (.t 21), none, [14, 12, 0, 1, 2, 3, 4, 5, 6, 7, 8, 9, 10, 11, 12, 13, 14], []⟩,
 ⟨some 6, .mov (.t 22), none, [15, 16, 0, 1, 2, 3, 4, 5, 6, 7, 8, 9, 10, 11, 12, 13, 14, 15, 16], []⟩])
(.seq (.reg [⟨some 23, .mov (.t 6), none, [], []⟩,
 ⟨some 5, .mov (.t 23), none, [0, 0], []⟩])
(.ret)))),
[.t 5], 24⟩
theorem v_fit_Take_1_ok : compF Tryd.prog 32 = some v_fit_Take_1 := by kernel_rfl
def v_fit_Most_1 : VFn := ⟨.seq (.reg [⟨some 5, .mov (.c (.int .i64 0)), none, [], []⟩])
(.seq (.reg [⟨some 9, .load 1 false (.t 0), none, [], []⟩,
 ⟨some 10, .load 1 false (.t 1), none, [], []⟩,
 ⟨some 11, .load 1 false (.t 1), none, [], []⟩,
 ⟨some 12, .load 1 false (.t 2), none, [], []⟩,
 ⟨some 13, .bin .add (.t 11) (.t 12), none, [2, 3], []⟩,
 ⟨some 14, .call 26 [(.t 9), (.t 10), (.t 13)], none, [0, 1, 4], []⟩,
 ⟨some 8, .mov (.t 14), none, [5], []⟩,
 ⟨some 15, .ext (.t 8) 0, none, [6], []⟩,
 ⟨some 16, .ext (.t 8) 1, none, [6], []⟩,
 ⟨some 6, .alloc [(.int .i64 0), (.int .i64 0)], none, [], []⟩,
 ⟨none, .store 2 (.t 6) (.t 15), none, [9, 7, 5, 0, 1, 2, 3, 4, 5, 6, 7, 9], []⟩,
 ⟨some 7, .mov (.t 16), none, [8, 10, 0, 1, 2, 3, 4, 5, 6, 7, 8, 9, 10], []⟩])
(.seq (.seq (.reg [⟨some 17, .mov (.t 7), none, [], []⟩,
 ⟨some 18, .bin .neq (.t 17) (.c (.int .i64 0)), none, [0], []⟩])
(.cond (.t 18)
 (.seq (.reg [⟨some 19, .mov (.t 7), none, [], []⟩,
 ⟨some 5, .mov (.t 19), none, [0, 0], []⟩])
 (.ret))
 (.skip)))
(.seq (.reg [⟨some 21, .load 2 true (.t 6), none, [], []⟩,
 ⟨some 22, .load 2 true (.t 3), none, [], []⟩,
 ⟨some 23, .call 35 [(.t 21), (.t 22)], none, [0, 1], []⟩,
 ⟨some 20, .mov (.t 23), none, [2], []⟩,
 ⟨some 24, .ext (.t 20) 0, none, [3], []⟩,
 ⟨some 25, .ext (.t 20) 1, none, [3], []⟩,
 ⟨none, .store 1 (.t 4) (.t 24), none, [4, 2, 0, 1, 2, 3, 4], []⟩,
 ⟨some 7, .mov (.t 25), none, [5, 6, 0, 1, 2, 3, 4, 5, 6], []⟩])
(.seq (.reg [⟨some 26, .mov (.t 7), none, [], []⟩,
 ⟨some 5, .mov (.t 26), none, [0, 0], []⟩])
(.ret))))),
[.t 5], 27⟩
theorem v_fit_Most_1_ok : compF Tryd.prog 34 = some v_fit_Most_1 := by kernel_rfl
def v_fit_form : VFn := ⟨.seq (.reg [⟨some 2, .mov (.c (.bool false)), none, [], []⟩])
(.seq (.seq (.reg [⟨some 5, .mov (.t 0), none, [], []⟩,
 ⟨some 6, .len (.t 5), none, [0], []⟩,
 ⟨some 7, .mov (.c (.int .i64 0)), none, [], []⟩])
(.block 0
 (.loop
 (.seq (.reg [⟨some 8, .bin .lss (.t 7) (.t 6), none, [], []⟩])
 (.seq (.cond (.t 8)
 (.skip)
 (.exit 0))
 (.seq (.block 1
 (.seq (.reg [⟨some 9, .iad 1 (.t 5) (.t 7), none, [], []⟩,
 ⟨some 10, .load 1 false (.t 9), none, [0], []⟩,
 ⟨some 4, .mov (.t 10), none, [1, 0, 1], []⟩])
 (.seq (.reg [⟨some 11, .mov (.t 4), none, [], []⟩,
 ⟨some 12, .call 33 [(.t 11)], none, [0], []⟩,
 ⟨some 13, .un .not (.t 12), none, [1], []⟩])
 (.cond (.t 13)
 (.seq (.reg [⟨some 2, .mov (.c (.bool false)), none, [], []⟩])
 (.ret))
 (.skip)))))
 (.reg [⟨some 14, .bin .add (.t 7) (.c (.int .i64 1)), none, [], []⟩,
 ⟨some 7, .mov (.t 14), none, [0], []⟩])))))))
(.seq (.reg [⟨some 2, .mov (.c (.bool true)), none, [], []⟩])
(.ret))),
[.t 2], 15⟩
theorem v_fit_form_ok : compF Tryd.prog 41 = some v_fit_form := by kernel_rfl
def v_fit_far : VFn := ⟨.seq (.reg [⟨some 2, .mov (.c (.bool false)), none, [], []⟩])
(.seq (.reg [⟨some 3, .mov (.t 0), none, [], []⟩,
 ⟨some 4, .bin .lss (.t 3) (.c (.int .i64 (-1099511627776))), none, [0], []⟩,
 ⟨some 5, .mov (.t 4), none, [1], []⟩,
 ⟨some 6, .mov (.t 0), some (5, false), [2], []⟩,
 ⟨some 7, .bin .gtr (.t 6) (.c (.int .i64 1099511627776)), some (5, false), [3, 2], []⟩,
 ⟨some 8, .pick (.t 5) (.c (.bool true)) (.t 7), none, [2, 4], []⟩,
 ⟨some 2, .mov (.t 8), none, [5, 2, 0, 1, 2, 3, 4, 5], []⟩])
(.ret)),
[.t 2], 9⟩
theorem v_fit_far_ok : compF Tryd.prog 42 = some v_fit_far := by kernel_rfl
def v_fit_always : VFn := ⟨.seq (.reg [⟨some 2, .box (.t 0), none, [], []⟩,
 ⟨some 4, .mov (.c (.sl [] .full)), none, [], []⟩])
(.seq (.reg [⟨some 8, .mov (.t 1), none, [], []⟩,
 ⟨some 9, .load 2 true (.t 2), none, [], []⟩,
 ⟨some 10, .build [(.int .i64 0), (.int .i64 0), (.int .i64 0)] [(0, 1, (.t 8)), (1, 2, (.t 9))], none, [0, 1], []⟩,
 ⟨some 11, .bsl 3 [(.t 10)], none, [2], []⟩,
 ⟨some 12, .call 47 [(.t 11)], none, [3], []⟩,
 ⟨some 7, .mov (.t 12), none, [4], []⟩,
 ⟨some 13, .ext (.t 7) 0, none, [5], []⟩,
 ⟨some 14, .ext (.t 7) 1, none, [5], []⟩,
 ⟨some 5, .mov (.t 13), none, [6, 4, 0, 1, 2, 3, 4, 5, 6], []⟩,
 ⟨some 6, .mov (.t 14), none, [7, 8, 0, 1, 2, 3, 4, 5, 6, 7, 8], []⟩])
(.seq (.reg [⟨some 15, .mov (.t 5), none, [], []⟩,
 ⟨some 4, .mov (.t 15), none, [0, 0], []⟩])
(.ret))),
[.t 4], 16⟩
theorem v_fit_always_ok : compF Tryd.prog 44 = some v_fit_always := by kernel_rfl
def v_fit_bounds : VFn := ⟨.seq (.reg [⟨some 0, .alloc [.nilf, .nilf, .nilf], none, [], []⟩])
(.seq (.reg [⟨some 1, .build [.nilf] [(0, 1, (.c (.clo 69 [] [])))], none, [], []⟩,
 ⟨some 2, .build [.nilf] [(0, 1, (.c (.clo 70 [] [])))], none, [], []⟩,
 ⟨some 3, .build [.nilf] [(0, 1, (.c (.clo 71 [] [])))], none, [], []⟩,
 ⟨some 4, .build [.nilf, .nilf, .nilf] [(0, 1, (.t 1)), (1, 1, (.t 2)), (2, 1, (.t 3))], none, [0, 1, 2], []⟩,
 ⟨none, .store 3 (.t 0) (.t 4), none, [3, 0, 1, 2, 3], []⟩])
(.ret)),
[.c 0 3 true], 5⟩
theorem v_fit_bounds_ok : compF Tryd.prog 45 = some v_fit_bounds := by kernel_rfl
def v_fit_commit : VFn := ⟨.seq (.reg [⟨some 2, .box (.t 0), none, [], []⟩,
 ⟨some 3, .box (.t 1), none, [], []⟩,
 ⟨some 4, .mov (.c (.sl [] .full)), none, [], []⟩,
 ⟨some 5, .mov (.c (.int .i64 0)), none, [2], []⟩])
(.seq (.reg [⟨some 6, .fad 0 (.t 2), none, [], []⟩,
 ⟨some 7, .load 1 false (.t 6), none, [0], []⟩,
 ⟨some 8, .fad 1 (.t 2), none, [], []⟩,
 ⟨some 9, .load 1 false (.t 8), none, [2], []⟩,
 ⟨some 10, .call 84 [(.t 7), (.t 9)], none, [1, 3], []⟩,
 ⟨some 11, .ext (.t 10) 0, none, [4], []⟩,
 ⟨some 12, .ext (.t 10) 1, none, [4], []⟩,
 ⟨some 4, .mov (.t 11), none, [5, 4, 0, 1, 2, 3, 4, 5, 6], []⟩,
 ⟨some 5, .mov (.t 12), none, [6, 7, 0, 1, 2, 3, 4, 5, 6, 7], []⟩])
(.ret)),
[.t 4, .t 5], 13⟩
theorem v_fit_commit_ok : compF Tryd.prog 69 = some v_fit_commit := by kernel_rfl
def v_fit_user : VFn := ⟨.seq (.reg [⟨some 2, .box (.t 0), none, [], []⟩,
 ⟨some 3, .box (.t 1), none, [], []⟩,
 ⟨some 4, .mov (.c (.sl [] .full)), none, [], []⟩,
 ⟨some 5, .mov (.c (.int .i64 0)), none, [2], []⟩])
(.seq (.dreg [⟨some 6, .fad 1 (.t 3), none, [], []⟩,
 ⟨some 7, .load 2 true (.t 6), none, [0], []⟩,
 ⟨some 8, .fad 3 (.t 2), none, [], []⟩,
 ⟨some 9, .load 1 false (.t 8), none, [2], []⟩,
 ⟨some 10, .call 44 [(.t 7), (.t 9)], none, [1, 3], []⟩,
 ⟨some 11, .fad 2 (.t 2), none, [], []⟩,
 ⟨some 12, .load 1 false (.t 11), none, [5], []⟩,
 ⟨some 13, .call 84 [(.t 10), (.t 12)], none, [4, 6, 4], [(0, 0)]⟩,
 ⟨some 14, .ext (.t 13) 0, none, [7], []⟩,
 ⟨some 15, .ext (.t 13) 1, none, [7], []⟩,
 ⟨some 4, .mov (.t 14), none, [8, 7, 0, 1, 2, 3, 4, 5, 6, 7, 8, 9], []⟩,
 ⟨some 5, .mov (.t 15), none, [9, 10, 0, 1, 2, 3, 4, 5, 6, 7, 8, 9, 10], []⟩])
(.ret)),
[.t 4, .t 5], 16⟩
theorem v_fit_user_ok : compF Tryd.prog 70 = some v_fit_user := by kernel_rfl
def v_fit_none : VFn := ⟨.seq (.reg [⟨some 2, .box (.t 0), none, [], []⟩,
 ⟨some 3, .box (.t 1), none, [], []⟩,
 ⟨some 4, .mov (.c (.sl [] .full)), none, [], []⟩,
 ⟨some 5, .mov (.c (.int .i64 0)), none, [2], []⟩])
(.seq (.reg [⟨some 6, .load 2 true (.c (.iptr (.agg [(.int .i64 1125899906842624), (.int .i64 1125899906842624)]) 0)), none, [], []⟩,
 ⟨some 7, .fad 3 (.t 2), none, [], []⟩,
 ⟨some 8, .load 1 false (.t 7), none, [1], []⟩,
 ⟨some 9, .call 44 [(.t 6), (.t 8)], none, [0, 2], []⟩,
 ⟨some 4, .mov (.t 9), none, [3, 3, 0, 1, 2, 3], []⟩,
 ⟨some 5, .mov (.c (.int .i64 0)), none, [4, 0, 1, 2, 3, 4], []⟩])
(.ret)),
[.t 4, .t 5], 10⟩
theorem v_fit_none_ok : compF Tryd.prog 71 = some v_fit_none := by kernel_rfl
end Go.Proofs.YtglekfgoadehbaaDoor.V
end
section
set_option linter.unusedSimpArgs false
set_option linter.unusedVariables false
/- What the package fit's functions compute: far, window, Fits. -/
namespace Go.Proofs.YtglekfgoadehbaaDoor.V
open Go Go.Proofs
set_option maxRecDepth 100000
set_option maxHeartbeats 4000000
theorem farfit_v (n : Int) : VPure Tryd.prog 42 [.int .i64 n] (.bool (farF n)) := by
  refine VPure.of v_fit_far_ok (Nat.le_of_ble_eq_true rfl) (fun Z st => ?_)
  simp only [v_fit_far, ↓vD, vU, ↓vMd, vMu, vZ, seval, k_app, k_slc1]
  unfold farF
  (repeat' (first | (simp (maxDischargeDepth := 16) only [*, vX, ↓vD, vU, ↓vMd, vMu, vZ, seval]) | (simp (disch := first | assumption | omega | rfl | exact fun _ => rfl) only [vP]) | ((with_reducible first | apply gsnd | apply csnd | apply gsd | apply csd | apply gsn | apply csn | apply gs | apply cs_) <;> intro _)))
  (all_goals (first | rfl | (simp_all; done) | (simp_all <;> omega)))
def winE (f : List Seg) (t d : Int) (v : Vec) : Int := if mayF f then (if d < 1 ∨ 4096 < d then 2 else if farF t || !mayV v then 10 else 0) else 5
theorem window_c {Z : Im} {st : St} (f : List Seg) (hn : f.length ≤ 1000000) (n d : Int) (v : Vec) (t : Tok) {g : Nat} {fs cs : List AV} {K : AV → St → Prop} (hg : winE f n d v = 0 → VCalls Tryd.prog Z g (fs ++ [] ++ cs) st K) :
    VCalls Tryd.prog Z 24 [.sl (f.map Seg.a) t, num n, num d, v.a, .clo g fs cs] st (fun r s => if winE f n d v = 0 then K r s else r = num (winE f n d v) ∧ s = st) := by
  have hmay := May_F f (by omega) t
  obtain ⟨mf, hmf⟩ : ∃ m, mayF f = m := ⟨_, rfl⟩
  rw [hmf] at hmay
  have hfar := farfit_v n
  obtain ⟨a, ha⟩ : ∃ a, farF n = a := ⟨_, rfl⟩
  have hm := May_v v.m v.c
  obtain ⟨b, hb⟩ : ∃ b, mayV ⟨v.m, v.c⟩ = b := ⟨_, rfl⟩
  have hE : winE f n d v = if mf then (if d < 1 ∨ 4096 < d then 2 else if a || !b then 10 else 0) else 5 := by unfold winE; rw [hmf, ha, ← hb]
  rw [ha] at hfar
  rw [hb] at hm
  obtain ⟨e, he⟩ : ∃ e, winE f n d v = e := ⟨_, rfl⟩
  rw [he] at hE hg ⊢
  clear hmf ha hb he
  have fin : ∀ e', e = e' → e' ≠ 0 → (∃ s, s.le st ∧ (if e = 0 then K (num e') s else num e' = num e ∧ s = st)) := fun e' h1 h2 => ⟨st, St.le.refl _, by rw [if_neg (by omega)]; exact ⟨by rw [h1], rfl⟩⟩
  by_cases h0 : e = 0
  · subst h0
    have hg' := hg rfl
    simp only [if_true]
    have hc : mf = true ∧ (¬ d < 1 ∧ ¬ 4096 < d) ∧ a = false ∧ b = true := by
      cases mf with
      | false => simp at hE
      | true =>
        rw [if_pos rfl] at hE
        by_cases hd : d < 1 ∨ 4096 < d
        · rw [if_pos hd] at hE; omega
        · rw [if_neg hd] at hE
          cases a <;> cases b <;> simp at hE ⊢
          omega
    obtain ⟨rfl, ⟨d1, d2⟩, rfl, rfl⟩ := hc
    clear hE fin hg
    refine VCalls.sm ?_
    refine VCalls.of v_fit_window_ok (Nat.le_of_ble_eq_true rfl) ?_
    simp only [v_fit_window, ↓vD, vU, ↓vMd, vMu, vZ, seval, k_app, k_slc1]
    (repeat' (first | (simp (maxDischargeDepth := 16) only [*, num, Vec.a, vX, ↓vD, vU, ↓vMd, vMu, vZ, seval]) | (simp (disch := first | assumption | omega | rfl | exact fun _ => rfl) only [num, Vec.a, vP]) | ((with_reducible first | apply gsnd | apply csnd | apply gsd | apply csd | apply gsn | apply csn | apply gs | apply cs_) <;> intro _) | (with_reducible refine objQ_i (fun _ _ => ?_); repeat with_reducible refine imp_i (fun _ => ?_)) | (with_reducible first | refine callH_use (hmay) ?_ | refine pureQ_use (hmay) ?_) | (with_reducible first | refine callH_use (hfar) ?_ | refine pureQ_use (hfar) ?_) | (with_reducible first | refine callH_use (hm) ?_ | refine pureQ_use (hm) ?_)))
    rename_i b8 h8
    rw [List.append_nil] at hg'
    refine callH_then (hg'.frame b8 _ h8) ?_
    rintro r _ ⟨s', hK, hb8, rfl⟩
    (repeat' (first | (simp (maxDischargeDepth := 16) only [*, vX, ↓vD, vU, ↓vMd, vMu, vZ, seval]) | (simp (disch := first | assumption | omega | rfl | exact fun _ => rfl) only [vP]) | ((with_reducible first | apply gsnd | apply csnd | apply gsd | apply csd | apply gsn | apply csn | apply gs | apply cs_) <;> intro _) | (with_reducible refine objQ_i (fun _ _ => ?_); repeat with_reducible refine imp_i (fun _ => ?_))))
    exact ⟨_, St.le.refl _, s', hK, by (refine ⟨fun i o e => ?_, fun _ h => h⟩; revert e; simp only [St.ins, St.del, add_objs, kill_objs]; (repeat' split); all_goals (first | exact id | (intros; contradiction) | (intros; subst_vars; contradiction) | (intros; simp_all; done) | (intros; subst_vars; simp_all; done)))⟩
  · simp only [h0, if_false]
    refine VCalls.of v_fit_window_ok (Nat.le_of_ble_eq_true rfl) ?_
    simp only [v_fit_window, ↓vD, vU, ↓vMd, vMu, vZ, seval, k_app, k_slc1]
    have HE := Hid.mk hE
    clear hE fin hg
    cases mf with
    | false =>
      have e1 : e = 5 := by rw [HE.out]; rfl
      clear HE
      subst e1
      (repeat' (first | (simp (maxDischargeDepth := 16) only [*, num, Vec.a, vX, ↓vD, vU, ↓vMd, vMu, vZ, seval]) | (simp (disch := first | assumption | omega | rfl | exact fun _ => rfl) only [num, Vec.a, vP]) | ((with_reducible first | apply gsnd | apply csnd | apply gsd | apply csd | apply gsn | apply csn | apply gs | apply cs_) <;> intro _) | (with_reducible refine objQ_i (fun _ _ => ?_); repeat with_reducible refine imp_i (fun _ => ?_)) | (with_reducible first | refine callH_use (hmay) ?_ | refine pureQ_use (hmay) ?_) | (with_reducible first | refine callH_use (hfar) ?_ | refine pureQ_use (hfar) ?_) | (with_reducible first | refine callH_use (hm) ?_ | refine pureQ_use (hm) ?_)))
      all_goals first | done | exact ⟨_, by (refine ⟨fun i o e => ?_, fun _ h => h⟩; revert e; simp only [St.ins, St.del, add_objs, kill_objs]; (repeat' split); all_goals (first | exact id | (intros; contradiction) | (intros; subst_vars; contradiction) | (intros; simp_all; done) | (intros; subst_vars; simp_all; done))), rfl, rfl⟩
    | true =>
      by_cases d1 : d < 1
      · have e1 : e = 2 := by rw [HE.out, if_pos rfl, if_pos (.inl d1)]
        clear HE
        subst e1
        (repeat' (first | (simp (maxDischargeDepth := 16) only [*, num, Vec.a, vX, ↓vD, vU, ↓vMd, vMu, vZ, seval]) | (simp (disch := first | assumption | omega | rfl | exact fun _ => rfl) only [num, Vec.a, vP]) | ((with_reducible first | apply gsnd | apply csnd | apply gsd | apply csd | apply gsn | apply csn | apply gs | apply cs_) <;> intro _) | (with_reducible refine objQ_i (fun _ _ => ?_); repeat with_reducible refine imp_i (fun _ => ?_)) | (with_reducible first | refine callH_use (hmay) ?_ | refine pureQ_use (hmay) ?_) | (with_reducible first | refine callH_use (hfar) ?_ | refine pureQ_use (hfar) ?_) | (with_reducible first | refine callH_use (hm) ?_ | refine pureQ_use (hm) ?_)))
        all_goals first | done | exact ⟨_, by (refine ⟨fun i o e => ?_, fun _ h => h⟩; revert e; simp only [St.ins, St.del, add_objs, kill_objs]; (repeat' split); all_goals (first | exact id | (intros; contradiction) | (intros; subst_vars; contradiction) | (intros; simp_all; done) | (intros; subst_vars; simp_all; done))), rfl, rfl⟩
      by_cases d2 : 4096 < d
      · have e1 : e = 2 := by rw [HE.out, if_pos rfl, if_pos (.inr d2)]
        clear HE
        subst e1
        (repeat' (first | (simp (maxDischargeDepth := 16) only [*, num, Vec.a, vX, ↓vD, vU, ↓vMd, vMu, vZ, seval]) | (simp (disch := first | assumption | omega | rfl | exact fun _ => rfl) only [num, Vec.a, vP]) | ((with_reducible first | apply gsnd | apply csnd | apply gsd | apply csd | apply gsn | apply csn | apply gs | apply cs_) <;> intro _) | (with_reducible refine objQ_i (fun _ _ => ?_); repeat with_reducible refine imp_i (fun _ => ?_)) | (with_reducible first | refine callH_use (hmay) ?_ | refine pureQ_use (hmay) ?_) | (with_reducible first | refine callH_use (hfar) ?_ | refine pureQ_use (hfar) ?_) | (with_reducible first | refine callH_use (hm) ?_ | refine pureQ_use (hm) ?_)))
        all_goals first | done | exact ⟨_, by (refine ⟨fun i o e => ?_, fun _ h => h⟩; revert e; simp only [St.ins, St.del, add_objs, kill_objs]; (repeat' split); all_goals (first | exact id | (intros; contradiction) | (intros; subst_vars; contradiction) | (intros; simp_all; done) | (intros; subst_vars; simp_all; done))), rfl, rfl⟩
      have e1 : e = 10 ∧ (a = true ∨ b = false) := by
        have := HE.out
        rw [if_pos rfl, if_neg (by omega)] at this
        cases a <;> cases b <;> simp at this <;> first | omega | (refine ⟨this, ?_⟩; simp)
      obtain ⟨rfl, hab⟩ := e1
      clear HE
      cases a with
      | true =>
        clear hab
        (repeat' (first | (simp (maxDischargeDepth := 16) only [*, num, Vec.a, vX, ↓vD, vU, ↓vMd, vMu, vZ, seval]) | (simp (disch := first | assumption | omega | rfl | exact fun _ => rfl) only [num, Vec.a, vP]) | ((with_reducible first | apply gsnd | apply csnd | apply gsd | apply csd | apply gsn | apply csn | apply gs | apply cs_) <;> intro _) | (with_reducible refine objQ_i (fun _ _ => ?_); repeat with_reducible refine imp_i (fun _ => ?_)) | (with_reducible first | refine callH_use (hmay) ?_ | refine pureQ_use (hmay) ?_) | (with_reducible first | refine callH_use (hfar) ?_ | refine pureQ_use (hfar) ?_) | (with_reducible first | refine callH_use (hm) ?_ | refine pureQ_use (hm) ?_)))
        all_goals first | done | exact ⟨_, by (refine ⟨fun i o e => ?_, fun _ h => h⟩; revert e; simp only [St.ins, St.del, add_objs, kill_objs]; (repeat' split); all_goals (first | exact id | (intros; contradiction) | (intros; subst_vars; contradiction) | (intros; simp_all; done) | (intros; subst_vars; simp_all; done))), rfl, rfl⟩
      | false =>
        obtain rfl : b = false := by simpa using hab
        clear hab
        (repeat' (first | (simp (maxDischargeDepth := 16) only [*, num, Vec.a, vX, ↓vD, vU, ↓vMd, vMu, vZ, seval]) | (simp (disch := first | assumption | omega | rfl | exact fun _ => rfl) only [num, Vec.a, vP]) | ((with_reducible first | apply gsnd | apply csnd | apply gsd | apply csd | apply gsn | apply csn | apply gs | apply cs_) <;> intro _) | (with_reducible refine objQ_i (fun _ _ => ?_); repeat with_reducible refine imp_i (fun _ => ?_)) | (with_reducible first | refine callH_use (hmay) ?_ | refine pureQ_use (hmay) ?_) | (with_reducible first | refine callH_use (hfar) ?_ | refine pureQ_use (hfar) ?_) | (with_reducible first | refine callH_use (hm) ?_ | refine pureQ_use (hm) ?_)))
        all_goals first | done | exact ⟨_, by (refine ⟨fun i o e => ?_, fun _ h => h⟩; revert e; simp only [St.ins, St.del, add_objs, kill_objs]; (repeat' split); all_goals (first | exact id | (intros; contradiction) | (intros; subst_vars; contradiction) | (intros; simp_all; done) | (intros; subst_vars; simp_all; done))), rfl, rfl⟩
def fitsF (f : List Seg) (n d : Int) (v : Vec) : Bool × Int := if winE f n d v = 0 then (leW v (leastF minV f n (n + d)), 0) else (false, winE f n d v)
theorem win_ok {f : List Seg} {n d : Int} {v : Vec} (h : winE f n d v = 0) : mayF f = true ∧ 1 ≤ d ∧ d ≤ 4096 ∧ farF n = false ∧ mayV v = true ∧ -1099511627776 ≤ n ∧ n ≤ 1099511627776 := by
  unfold winE at h
  cases hm : mayF f <;> rw [hm] at h
  · simp at h
  · simp only [if_true] at h
    split at h
    · omega
    · split at h
      · omega
      · rename_i h1 h2
        simp only [Bool.or_eq_true, not_or, Bool.not_eq_true, Bool.not_eq_false'] at h2
        have := h2.1
        simp only [farF, Bool.or_eq_false_iff, decide_eq_false_iff_not] at this
        exact ⟨rfl, by omega, by omega, h2.1, by simpa using h2.2, by omega, by omega⟩
theorem over_ok {f : List Seg} {n d : Int} {v : Vec} (h : winE f n d v = 0) : overE f n (n + d) = 0 := by
  obtain ⟨h1, h2, h3, h4, h5, h6, h7⟩ := win_ok h
  unfold overE
  rw [h1, if_pos rfl, if_pos (by omega)]
theorem Fits_c (f : List Seg) (hn : f.length ≤ 1000000) (n d : Int) (v : Vec) (t : Tok) :
    VPure Tryd.prog 9 [.sl (f.map Seg.a) t, num n, num d, v.a] (.tup [.bool (fitsF f n d v).1, num (fitsF f n d v).2]) := fun Z st => by
  refine VCalls.of v_fit_Fits_ok (Nat.le_of_ble_eq_true rfl) ?_
  simp only [v_fit_Fits, ↓vD, vU, ↓vMd, vMu, vZ, seval, k_app, k_slc1]
  (repeat' (first | (simp (maxDischargeDepth := 16) only [*, num, Vec.a, vX, ↓vD, vU, ↓vMd, vMu, vZ, seval]) | (simp (disch := first | assumption | omega | rfl | exact fun _ => rfl) only [num, Vec.a, vP]) | ((with_reducible first | apply gsnd | apply csnd | apply gsd | apply csd | apply gsn | apply csn | apply gs | apply cs_) <;> intro _) | (with_reducible refine objQ_i (fun _ _ => ?_); repeat with_reducible refine imp_i (fun _ => ?_))))
  (rename_i b4 hb4 b5 hb5 n_b5_b4 n_b4_b5 b6 hb6 n_b6_b4 n_b4_b6 n_b6_b5 n_b5_b6 b7 hb7 n_b7_b4 n_b4_b7 n_b7_b5 n_b5_b7 n_b7_b6 n_b6_b7 b8 hb8 n_b8_b4 n_b4_b8 n_b8_b5 n_b5_b8 n_b8_b6 n_b6_b8 n_b8_b7 n_b7_b8)
  have hLow := Low_c f hn n (n + d) t
  have hLE := LE_v v.m v.c
  obtain ⟨w, hw⟩ : ∃ w, leastF minV f n (n + d) = w := ⟨_, rfl⟩
  rw [hw] at hLow
  have HF : Hid (fitsF f n d v = if winE f n d v = 0 then (decide (v.m ≤ w.m) && decide (v.c ≤ w.c), 0) else (false, winE f n d v)) := ⟨by unfold fitsF; rw [hw]; rfl⟩
  clear hw
  refine callH_then (window_c (K := fun r s => r = num 0 ∧ s = ((((st.ins b4 (.cells [.sl (f.map Seg.a) t])).ins b5 (.cells [.int .i64 n])).ins b6 (.cells [.int .i64 d])).ins b7 (.cells [.int .i64 v.m, .int .i64 v.c])).ins b8 (.cells [.bool (decide (v.m ≤ w.m) && decide (v.c ≤ w.c))])) f hn n d v t ?_) ?_
  · intro hE
    have hO := over_ok hE
    rw [hO, if_pos rfl] at hLow
    obtain ⟨_, d1, d2, _, _, d3, d4⟩ := win_ok hE
    have hwr : IntKind.i64.wrap (n + d) = n + d := wrap_i64 _ (by omega) (by omega)
    simp only [num, Vec.a] at hLow
    clear hE hO
    refine VCalls.of v_fit_Fits_1_ok (Nat.le_of_ble_eq_true rfl) ?_
    simp only [v_fit_Fits_1, List.nil_append, List.cons_append, ↓vD, vU, ↓vMd, vMu, vZ, seval, k_app, k_slc1]
    (repeat' (first | (simp (maxDischargeDepth := 16) only [*, num, Vec.a, vX, ↓vD, vU, ↓vMd, vMu, vZ, seval]) | (simp (disch := first | assumption | omega | rfl | exact fun _ => rfl) only [num, Vec.a, vP]) | ((with_reducible first | apply gsnd | apply csnd | apply gsd | apply csd | apply gsn | apply csn | apply gs | apply cs_) <;> intro _) | (with_reducible refine objQ_i (fun _ _ => ?_); repeat with_reducible refine imp_i (fun _ => ?_)) | (with_reducible first | refine callH_use (hLow) ?_ | refine pureQ_use (hLow) ?_) | (with_reducible first | refine callH_use (hLE _ _) ?_ | refine pureQ_use (hLE _ _) ?_)))
    all_goals first | done | exact ⟨_, by (refine ⟨fun i o e => ?_, fun _ h => h⟩; revert e; simp only [St.ins, St.del, add_objs, kill_objs]; (repeat' split); all_goals (first | exact id | (intros; contradiction) | (intros; subst_vars; contradiction) | (intros; simp_all; done) | (intros; subst_vars; simp_all; done))), rfl, rfl⟩ | (refine ⟨fun i o e => ?_, fun _ h => h⟩; revert e; simp only [St.ins, St.del, add_objs, kill_objs]; (repeat' split); all_goals (first | exact id | (intros; contradiction) | (intros; subst_vars; contradiction) | (intros; simp_all; done) | (intros; subst_vars; simp_all; done)))
  · rintro r s hK
    obtain ⟨E, hE⟩ : ∃ E, winE f n d v = E := ⟨_, rfl⟩
    rw [hE] at hK HF
    by_cases h0 : E = 0
    · subst h0
      rw [if_pos rfl] at hK HF
      rw [HF.out]
      obtain ⟨rfl, rfl⟩ := hK
      (repeat' (first | (simp (maxDischargeDepth := 16) only [*, num, Vec.a, vX, ↓vD, vU, ↓vMd, vMu, vZ, seval]) | (simp (disch := first | assumption | omega | rfl | exact fun _ => rfl) only [num, Vec.a, vP]) | ((with_reducible first | apply gsnd | apply csnd | apply gsd | apply csd | apply gsn | apply csn | apply gs | apply cs_) <;> intro _) | (with_reducible refine objQ_i (fun _ _ => ?_); repeat with_reducible refine imp_i (fun _ => ?_))))
      all_goals first | done | exact ⟨_, by (refine ⟨fun i o e => ?_, fun _ h => h⟩; revert e; simp only [St.ins, St.del, add_objs, kill_objs]; (repeat' split); all_goals (first | exact id | (intros; contradiction) | (intros; subst_vars; contradiction) | (intros; simp_all; done) | (intros; subst_vars; simp_all; done))), rfl, rfl⟩
    · rw [if_neg h0] at hK HF
      rw [HF.out]
      obtain ⟨rfl, rfl⟩ := hK
      (repeat' (first | (simp (maxDischargeDepth := 16) only [*, num, Vec.a, vX, ↓vD, vU, ↓vMd, vMu, vZ, seval]) | (simp (disch := first | assumption | omega | rfl | exact fun _ => rfl) only [num, Vec.a, vP]) | ((with_reducible first | apply gsnd | apply csnd | apply gsd | apply csd | apply gsn | apply csn | apply gs | apply cs_) <;> intro _) | (with_reducible refine objQ_i (fun _ _ => ?_); repeat with_reducible refine imp_i (fun _ => ?_))))
      all_goals first | done | exact ⟨_, by (refine ⟨fun i o e => ?_, fun _ h => h⟩; revert e; simp only [St.ins, St.del, add_objs, kill_objs]; (repeat' split); all_goals (first | exact id | (intros; contradiction) | (intros; subst_vars; contradiction) | (intros; simp_all; done) | (intros; subst_vars; simp_all; done))), rfl, rfl⟩
end Go.Proofs.YtglekfgoadehbaaDoor.V
end
section
set_option linter.unusedSimpArgs false
set_option linter.unusedVariables false
/- Boxes, windows: plain. -/
namespace Go.Proofs.YtglekfgoadehbaaDoor.V
open Go Go.Proofs Go.Proofs.YtglekfgoadehbaaDoor.SP
theorem box_fold (a b : Int) (v : Vec) (h : a < b) : foldF [⟨a, v⟩, ⟨b, v0⟩] = withF (withF [] a v) b v0 := by
  have hup : (([⟨a, v⟩, ⟨b, v0⟩] : List Seg).map (·.t)).Pairwise (· < ·) := by simp [h]
  unfold foldF
  rw [srt_self hup]
  have := fold_withs [⟨a, v⟩, ⟨b, v0⟩] [] hup
  rw [show lastW [] = v0 from rfl] at this
  rw [this]; rfl
theorem box_fold0 (a : Int) (v : Vec) : foldF [⟨a, v⟩, ⟨a, v0⟩] = [] := by
  have hs : sortS (ltB cmpS) ([⟨a, v⟩, ⟨a, v0⟩] : List Seg) = [⟨a, v⟩, ⟨a, v0⟩] := by
    refine (sortS_of swoS ?_ (Stb.refl _)).symm
    simp [Srt, ltS]
  unfold foldF
  rw [hs]
  simp [foldB, nextB, putF]
theorem box_ref (a b : Int) (v : Vec) (h : a < b) : refF [⟨a, v⟩, ⟨b, v0⟩] = withF (withF [] a v) b v0 := by
  have ht : timesF [a, b] = [a, b] := timesF_self (by simp [h])
  unfold refF
  simp only [List.map_cons, List.map_nil, ht, List.foldl_cons, List.foldl_nil]
  have e1 : rawF [⟨a, v⟩, ⟨b, v0⟩] a = v := by simp [rawF]; omega
  have e2 : rawF [⟨a, v⟩, ⟨b, v0⟩] b = v0 := by simp [rawF]
  rw [e1, e2]
theorem box_ref0 (a : Int) (v : Vec) : refF [⟨a, v⟩, ⟨a, v0⟩] = [] := by
  have ht : timesF [a, a] = [a] := by simp [timesF, insT, cntT]
  unfold refF
  simp only [List.map_cons, List.map_nil, ht, List.foldl_cons, List.foldl_nil]
  have e2 : rawF [⟨a, v⟩, ⟨a, v0⟩] a = v0 := by simp [rawF]
  rw [e2]; rfl
theorem box_same (a b : Int) (v : Vec) : boxF1 a b v = boxF2 a b v := by
  unfold boxF1 boxF2
  split
  · rfl
  · rename_i h
    unfold ofF refOf
    split
    · rcases Int.lt_or_le a b with c | c
      · rw [box_fold a b v c, box_ref a b v c]
      · have : b = a := by omega
        subst this
        rw [box_fold0, box_ref0]
    · rfl
theorem range_do (f : List Seg) (a b : Int) (v : Vec) : rangeC f a b v = rangeR f a b v := by
  unfold rangeC rangeR
  rw [box_same, add_do]
def boxV (a b : Int) (v : Vec) (t : Int) : Vec := if a ≤ t ∧ t < b then v else v0
theorem box_law (a b : Int) (v : Vec) (h : (boxF2 a b v).2 = 0) : a ≤ b ∧ inR a = true ∧ inR b = true ∧ mayV v = true := by
  unfold boxF2 at h
  split at h
  · cases h
  · rename_i c
    unfold refOf at h
    split at h
    · rename_i hin
      simp only [List.all_cons, List.all_nil, Bool.and_true, Bool.and_eq_true, inSeg] at hin
      exact ⟨by omega, hin.1.1, hin.2.1, hin.1.2⟩
    · cases h
theorem box_spec (a b : Int) (v : Vec) (hab : a ≤ b) (ha : inR a = true) (hb : inR b = true) (hv : mayV v = true) : (boxF2 a b v).2 = 0 ∧ mayF (boxF2 a b v).1 = true ∧ ∀ t, atF (boxF2 a b v).1 t = boxV a b v t := by
  have hin : ([⟨a, v⟩, ⟨b, v0⟩] : List Seg).all inSeg = true := by
    simp only [List.all_cons, List.all_nil, inSeg, ha, hb, hv]; rfl
  have hbox : boxF2 a b v = (refF [⟨a, v⟩, ⟨b, v0⟩], 0) := by
    unfold boxF2 refOf
    rw [if_neg (by omega), if_pos hin]
  rw [hbox]
  refine ⟨rfl, ?_⟩
  rcases Int.lt_or_le a b with c | c
  · simp only
    rw [box_ref a b v c]
    obtain ⟨c1, c2, c3, c4⟩ := with_spec [] a v trivial (by simp)
    obtain ⟨d1, d2, d3, d4⟩ := with_spec (withF [] a v) b v0 c1 (fun x hx => by have := c2 x hx; omega)
    refine ⟨(mayF_iff _).2 ⟨d1, fun x hx => ?_⟩, fun t => ?_⟩
    · rcases d3 x hx with hx | rfl
      · rcases c3 x hx with hx | rfl
        · cases hx
        · unfold inSeg; rw [ha, hv]; rfl
      · unfold inSeg; rw [hb]; rfl
    · rw [d4, c4]
      unfold boxV
      by_cases h1 : b ≤ t
      · rw [if_pos h1, if_neg (by omega)]
      · rw [if_neg h1]
        by_cases h2 : a ≤ t
        · rw [if_pos h2, if_pos (by omega)]
        · rw [if_neg h2, if_neg (by omega)]; rfl
  · have : b = a := by omega
    subst this
    simp only
    rw [box_ref0]
    exact ⟨rfl, fun t => by unfold boxV; rw [if_neg (by omega)]; rfl⟩
theorem rangeR_law (f : List Seg) (a b : Int) (v : Vec) (h : (rangeR f a b v).2 = 0) :
    mayF f = true ∧ mayF (rangeR f a b v).1 = true ∧ mayV v = true ∧ (∀ t, a ≤ t → t < b → (addR (atF f t) v).1 = atF (rangeR f a b v).1 t) ∧ (∀ t, ¬ (a ≤ t ∧ t < b) → atF f t = atF (rangeR f a b v).1 t) ∧
      rangeR (rangeR f a b v).1 a b ⟨wr (-v.m), wr (-v.c)⟩ = (f, 0) := by
  cases hf : mayF f with
  | false => unfold rangeR at h; rw [hf] at h; cases h
  | true =>
  have e0 : rangeR f a b v = if (boxF2 a b v).2 = 0 then doR 0 f (boxF2 a b v).1 else ([], (boxF2 a b v).2) := by unfold rangeR; rw [hf]; rfl
  by_cases hb0 : (boxF2 a b v).2 = 0
  case neg => rw [e0, if_neg hb0] at h; exact absurd h hb0
  rw [if_pos hb0] at e0
  obtain ⟨hab, ia, ib, iv⟩ := box_law a b v hb0
  obtain ⟨_, mb, vb⟩ := box_spec a b v hab ia ib iv
  rw [e0] at h
  obtain ⟨_, _, mr, vr⟩ := doR_may h
  rw [e0]
  have hvi := (mayV_iff v).1 iv
  have hneg : (⟨wr (-v.m), wr (-v.c)⟩ : Vec) = ⟨-v.m, -v.c⟩ := by rw [wr_id (by omega) (by omega), wr_id (by omega) (by omega)]
  have inn : mayV ⟨-v.m, -v.c⟩ = true := by rw [mayV_iff]; simp only; omega
  refine ⟨rfl, mr, iv, fun t h1 h2 => ?_, fun t ht => ?_, ?_⟩
  · have := vr t
    rw [vb t, boxV, if_pos ⟨h1, h2⟩] at this
    have e : oneR 0 (atF f t) v = addR (atF f t) v := by unfold oneR; rw [if_pos rfl]
    rw [← e, this]
  · have := vr t
    rw [vb t, boxV, if_neg ht, add_val _ _ (may_at hf t) (by rfl)] at this
    have e : (⟨(atF f t).m + v0.m, (atF f t).c + v0.c⟩ : Vec) = atF f t := by simp [v0]
    rw [e] at this
    exact (told_ok this).1
  · rw [hneg]
    obtain ⟨nb0, nmb, nvb⟩ := box_spec a b ⟨-v.m, -v.c⟩ hab ia ib inn
    have e1 : rangeR (doR 0 f (boxF2 a b v).1).1 a b ⟨-v.m, -v.c⟩ = doR 0 (doR 0 f (boxF2 a b v).1).1 (boxF2 a b ⟨-v.m, -v.c⟩).1 := by
      unfold rangeR; rw [mr, if_pos rfl, if_pos nb0]
    rw [e1]
    refine doR_is 0 _ _ f mr nmb hf (fun t => ?_)
    rw [nvb t]
    have h3 := vr t
    rw [vb t] at h3
    unfold boxV at h3 ⊢
    by_cases c : a ≤ t ∧ t < b
    · rw [if_pos c] at h3 ⊢
      rw [add_val _ _ (may_at hf t) iv] at h3
      obtain ⟨h4, _⟩ := told_ok h3
      rw [add_val _ _ (may_at mr t) inn, ← h4]
      have e : (⟨(atF f t).m + v.m + -v.m, (atF f t).c + v.c + -v.c⟩ : Vec) = atF f t := by
        rw [← vec_eta (atF f t)]; simp only [Vec.mk.injEq]; omega
      rw [e, toldF_may (may_at hf t)]
    · rw [if_neg c] at h3 ⊢
      rw [add_val _ _ (may_at hf t) (by rfl)] at h3
      have e : (⟨(atF f t).m + v0.m, (atF f t).c + v0.c⟩ : Vec) = atF f t := by simp [v0]
      rw [e] at h3
      obtain ⟨h4, _⟩ := told_ok h3
      rw [add_val _ _ (may_at mr t) (by rfl), ← h4, e, toldF_may (may_at hf t)]
end Go.Proofs.YtglekfgoadehbaaDoor.V
end
section
set_option linter.unusedSimpArgs false
set_option linter.unusedVariables false
/- What fits, and units, in plain Lean. -/
namespace Go.Proofs.YtglekfgoadehbaaDoor.V
open Go Go.Proofs
theorem last_stop (t s : Int) (h : t ≤ s) : ∀ l : List Int, ∃ u ∈ t :: l, t ≤ u ∧ u ≤ s ∧ ∀ y ∈ l, ¬ (u < y ∧ y ≤ s)
  | [] => ⟨t, by simp, Int.le_refl _, h, by simp⟩
  | y :: l => by
    obtain ⟨u, h1, h2, h3, h4⟩ := last_stop t s h l
    by_cases hy : u < y ∧ y ≤ s
    · refine ⟨y, by simp, by omega, hy.2, fun z hz => ?_⟩
      rcases List.mem_cons.1 hz with rfl | hz
      · omega
      · have := h4 z hz; omega
    · refine ⟨u, by rcases List.mem_cons.1 h1 with rfl | h1 <;> simp_all, h2, h3, fun z hz => ?_⟩
      rcases List.mem_cons.1 hz with rfl | hz
      · exact hy
      · exact h4 z hz
theorem stops (f : List Seg) (t z : Int) (more : List Int) (p : Vec → Prop) : (∀ s, t ≤ s → s < z → p (atF f s)) ↔ ∀ s ∈ t :: (f.map (·.t) ++ more), t ≤ s → s < z → p (atF f s) := by
  constructor
  · intro h s _ h1 h2; exact h s h1 h2
  · intro h s h1 h2
    obtain ⟨u, g1, g2, g3, g4⟩ := last_stop t s h1 (f.map (·.t) ++ more)
    have e := atF_between f u s g3 (fun x hx => g4 x.t (List.mem_append_left _ (List.mem_map.2 ⟨x, hx, rfl⟩)))
    rw [e]
    exact h u g1 g2 (by omega)
def intoF (f : List Seg) (t d : Int) (v : Vec) : Bool := (t :: f.map (·.t)).all fun s => !((decide (t ≤ s) && decide (s < t + d)) && !leW v (atF f s))
theorem into_iff (f : List Seg) (t d : Int) (v : Vec) : intoF f t d v = true ↔ ∀ s, t ≤ s → s < t + d → leW v (atF f s) = true := by
  have := stops f t (t + d) [] (fun u => leW v u = true)
  rw [List.append_nil] at this
  rw [this]
  unfold intoF
  rw [List.all_eq_true]
  constructor
  · intro h s hs h1 h2
    have := h s hs
    simpa [h1, h2] using this
  · intro h s hs
    simp only [Bool.not_eq_true', Bool.and_eq_false_imp, Bool.and_eq_true, decide_eq_true_eq, Bool.not_eq_false']
    intro ⟨h1, h2⟩
    exact h s hs h1 h2
theorem into_low {f : List Seg} (hf : mayF f = true) (t d : Int) (hd : 1 ≤ d) (v : Vec) : intoF f t d v = leW v (leastF minV f t (t + d)) := by
  have h1 := into_iff f t d v
  have h2 := low_le hf (show t < t + d by omega) v
  cases h : leW v (leastF minV f t (t + d)) with
  | true => exact h1.2 (h2.1 h)
  | false =>
    cases h3 : intoF f t d v with
    | false => rfl
    | true => rw [h2.2 (h1.1 h3)] at h; cases h
def unitsV (v u : Vec) : Int := if v.m < 0 ∨ v.c < 0 then 0 else min (v.m / u.m) (v.c / u.c)
def mulV (k : Int) (u : Vec) : Vec := ⟨k * u.m, k * u.c⟩
theorem unitsV_nn {v u : Vec} (h1 : 1 ≤ u.m) (h2 : 1 ≤ u.c) : 0 ≤ unitsV v u := by
  unfold unitsV
  split
  · omega
  · have := Int.ediv_nonneg (show 0 ≤ v.m by omega) (show 0 ≤ u.m by omega)
    have := Int.ediv_nonneg (show 0 ≤ v.c by omega) (show 0 ≤ u.c by omega)
    omega
theorem unitsV_iff {v u : Vec} (h1 : 1 ≤ u.m) (h2 : 1 ≤ u.c) {k : Int} (hk : 1 ≤ k) : k ≤ unitsV v u ↔ leW (mulV k u) v = true := by
  have e : leW (mulV k u) v = (decide (k * u.m ≤ v.m) && decide (k * u.c ≤ v.c)) := rfl
  rw [e]
  simp only [Bool.and_eq_true, decide_eq_true_eq]
  have p1 : 1 ≤ k * u.m := by have := Int.mul_le_mul hk h1 (by omega) (by omega); omega
  have p2 : 1 ≤ k * u.c := by have := Int.mul_le_mul hk h2 (by omega) (by omega); omega
  unfold unitsV
  split
  · omega
  · rw [Int.le_min, Int.le_ediv_iff_mul_le (by omega), Int.le_ediv_iff_mul_le (by omega)]
end Go.Proofs.YtglekfgoadehbaaDoor.V
end
section
set_option linter.unusedSimpArgs false
set_option linter.unusedVariables false
/- Units: vec and liveryref01. -/
namespace Go.Proofs.YtglekfgoadehbaaDoor.V
open Go Go.Proofs
set_option maxRecDepth 100000
set_option maxHeartbeats 4000000
theorem quo_v {x y : Int} (h0 : 0 ≤ x) (hx : x ≤ 9223372036854775807) (h1 : 1 ≤ y) : vbin .quo (.int .i64 x) (.int .i64 y) = some (.int .i64 (x / y)) := by
  have e : x.tdiv y = x / y := Int.tdiv_eq_ediv_of_nonneg h0
  have h2 := Int.ediv_nonneg h0 (show 0 ≤ y by omega)
  have h3 := Int.ediv_le_self y h0
  have hw : IntKind.i64.wrap (x / y) = x / y := wrap_i64 _ (by omega) (by omega)
  have hy : y ≠ 0 := by omega
  simp [vbin, e, hw, hy]
theorem units1_v (x y : Int) (hx : x ≤ 9223372036854775807) (hy : 1 ≤ y) : VPure Tryd.prog 59 [.int .i64 x, .int .i64 y] (.int .i64 (if x < 0 then 0 else x / y)) := by
  refine VPure.of v_vec_Units_1_ok (Nat.le_of_ble_eq_true rfl) (fun Z st => ?_)
  simp only [v_vec_Units_1, ↓vD, vU, ↓vMd, vMu, vZ, seval, k_app, k_slc1]
  by_cases h : x < 0
  · rw [if_pos h]
    (repeat' (first | (simp (maxDischargeDepth := 16) only [*, vX, ↓vD, vU, ↓vMd, vMu, vZ, seval]) | (simp (disch := first | assumption | omega | rfl | exact fun _ => rfl) only [vP]) | ((with_reducible first | apply gsnd | apply csnd | apply gsd | apply csd | apply gsn | apply csn | apply gs | apply cs_) <;> intro _)))
  · rw [if_neg h]
    have hq := quo_v (x := x) (y := y) (by omega) hx hy
    (repeat' (first | (simp (maxDischargeDepth := 16) only [*, hq, vX, ↓vD, vU, ↓vMd, vMu, vZ, seval]) | (simp (disch := first | assumption | omega | rfl | exact fun _ => rfl) only [hq, vP]) | ((with_reducible first | apply gsnd | apply csnd | apply gsd | apply csd | apply gsn | apply csn | apply gs | apply cs_) <;> intro _)))
theorem both_n2 {f : Nat} {fs cs : List AV} {m c m' c' p q : Int} (h1 : VPure Tryd.prog f (fs ++ [.int .i64 m, .int .i64 m'] ++ cs) (.int .i64 p)) (h2 : VPure Tryd.prog f (fs ++ [.int .i64 c, .int .i64 c'] ++ cs) (.int .i64 q)) :
    VPure Tryd.prog 58 [.agg [.int .i64 m, .int .i64 c], .agg [.int .i64 m', .int .i64 c'], .clo f fs cs] (.tup [.int .i64 p, .int .i64 q]) := by
  refine VPure.of v_vec_both_int64_ok (Nat.le_of_ble_eq_true rfl) (fun Z st => ?_)
  simp only [v_vec_both_int64, ↓vD, vU, ↓vMd, vMu, vZ, seval, k_app, k_slc1]
  (repeat' (first | (simp (maxDischargeDepth := 16) only [*, ↓vD, vU, ↓vMd, vMu, vZ, seval, k_app, k_slc1]) | (with_reducible refine gs (fun _ => ?_) (fun _ => ?_)) | (with_reducible refine cs_ (fun _ => ?_) (fun _ => ?_)) | (with_reducible refine objQ_i (fun _ _ => ?_); repeat with_reducible refine imp_i (fun _ => ?_)) | (with_reducible refine appK_a ?_) | (with_reducible first | refine callH_use (h1) ?_ | refine pureQ_use (h1) ?_) | (with_reducible first | refine callH_use (h2) ?_ | refine pureQ_use (h2) ?_)))
def unitsE (v u : Vec) : Int × Int := if u.m < 1 ∨ u.c < 1 then (0, 2) else if mayV v && mayV u then (unitsV v u, 0) else (0, 10)
theorem Units_v (m c m' c' : Int) : VPure Tryd.prog 35 [.agg [.int .i64 m, .int .i64 c], .agg [.int .i64 m', .int .i64 c']] (.tup [.int .i64 (unitsE ⟨m, c⟩ ⟨m', c'⟩).1, .int .i64 (unitsE ⟨m, c⟩ ⟨m', c'⟩).2]) := by
  refine VPure.of v_vec_Units_ok (Nat.le_of_ble_eq_true rfl) (fun Z st => ?_)
  have hL := LE_v 1 1 m' c'
  have hT := told2 m c m' c'
  obtain ⟨E, hE⟩ : ∃ E, unitsE ⟨m, c⟩ ⟨m', c'⟩ = E := ⟨_, rfl⟩
  rw [hE]
  have HE : Hid (unitsE ⟨m, c⟩ ⟨m', c'⟩ = E) := ⟨hE⟩
  clear hE
  by_cases hu : m' < 1 ∨ c' < 1
  · obtain rfl : E = (0, 2) := by rw [← HE.out]; unfold unitsE; rw [if_pos hu]
    clear HE
    have hb : (decide (1 ≤ m') && decide (1 ≤ c')) = false := by
      rw [Bool.and_eq_false_iff]; rcases hu with h | h
      · exact .inl (decide_eq_false (by omega))
      · exact .inr (decide_eq_false (by omega))
    rw [hb] at hL
    simp only [v_vec_Units, ↓vD, vU, ↓vMd, vMu, vZ, seval, k_app, k_slc1]
    (repeat' (first | (simp (maxDischargeDepth := 16) only [*, vX, ↓vD, vU, ↓vMd, vMu, vZ, seval]) | (simp (disch := first | assumption | omega | rfl | exact fun _ => rfl) only [vP]) | ((with_reducible first | apply gsnd | apply csnd | apply gsd | apply csd | apply gsn | apply csn | apply gs | apply cs_) <;> intro _) | (with_reducible refine objQ_i (fun _ _ => ?_); repeat with_reducible refine imp_i (fun _ => ?_)) | (with_reducible first | refine callH_use (hL) ?_ | refine pureQ_use (hL) ?_)))
  have h1 : 1 ≤ m' := by omega
  have h2 : 1 ≤ c' := by omega
  have hb : (decide (1 ≤ m') && decide (1 ≤ c')) = true := by simp [h1, h2]
  rw [hb] at hL
  clear hb
  by_cases hm : (mayV ⟨m, c⟩ && mayV ⟨m', c'⟩) = true
  · have ht : told1 ⟨m, c⟩ [⟨m', c'⟩] = (⟨m, c⟩, 0) := by unfold told1; rw [if_pos (by simpa using hm)]
    rw [ht] at hT
    simp only at hT
    have hr : inR m = true ∧ inR c = true := by simp only [mayV, Bool.and_eq_true] at hm; exact hm.1
    have hr2 : m ≤ 9223372036854775807 ∧ c ≤ 9223372036854775807 := by
      simp only [inR, Bool.and_eq_true, decide_eq_true_eq] at hr
      omega
    have hB := both_n2 (fs := []) (cs := []) (f := 59) (m := m) (c := c) (m' := m') (c' := c') (units1_v m m' hr2.1 h1) (units1_v c c' hr2.2 h2)
    obtain ⟨p, hp⟩ : ∃ p, (if m < 0 then 0 else m / m') = p := ⟨_, rfl⟩
    obtain ⟨q, hq⟩ : ∃ q, (if c < 0 then 0 else c / c') = q := ⟨_, rfl⟩
    rw [hp, hq] at hB
    obtain rfl : E = (min p q, 0) := by
      rw [← HE.out]; unfold unitsE
      rw [if_neg hu, if_pos hm, ← hp, ← hq]
      unfold unitsV
      have a1 : 0 ≤ m → 0 ≤ m / m' := fun h => Int.ediv_nonneg h (by omega)
      have a2 : 0 ≤ c → 0 ≤ c / c' := fun h => Int.ediv_nonneg h (by omega)
      simp only
      congr 1
      by_cases b1 : m < 0
      · rw [if_pos (.inl b1), if_pos b1]
        by_cases b2 : c < 0
        · rw [if_pos b2]; rfl
        · rw [if_neg b2]; have := a2 (by omega); omega
      · by_cases b2 : c < 0
        · rw [if_pos (.inr b2), if_neg b1, if_pos b2]; have := a1 (by omega); omega
        · rw [if_neg (by omega), if_neg b1, if_neg b2]
    clear HE hp hq hm hr hr2 ht
    simp only [v_vec_Units, ↓vD, vU, ↓vMd, vMu, vZ, seval, k_app, k_slc1]
    (repeat' (first | (simp (maxDischargeDepth := 16) only [*, vX, ↓vD, vU, ↓vMd, vMu, vZ, seval]) | (simp (disch := first | assumption | omega | rfl | exact fun _ => rfl) only [vP]) | ((with_reducible first | apply gsnd | apply csnd | apply gsd | apply csd | apply gsn | apply csn | apply gs | apply cs_) <;> intro _) | (with_reducible refine objQ_i (fun _ _ => ?_); repeat with_reducible refine imp_i (fun _ => ?_)) | (with_reducible first | refine callH_use (hL) ?_ | refine pureQ_use (hL) ?_) | (with_reducible first | refine callH_use (hT) ?_ | refine pureQ_use (hT) ?_) | (with_reducible first | refine callH_use (hB) ?_ | refine pureQ_use (hB) ?_)))
  · have ht : told1 ⟨m, c⟩ [⟨m', c'⟩] = (v0, 10) := by unfold told1; rw [if_neg (by simpa using hm)]
    obtain rfl : E = (0, 10) := by rw [← HE.out]; unfold unitsE; rw [if_neg hu, if_neg hm]
    rw [ht] at hT
    simp only [v0] at hT
    clear HE hm ht
    simp only [v_vec_Units, ↓vD, vU, ↓vMd, vMu, vZ, seval, k_app, k_slc1]
    (repeat' (first | (simp (maxDischargeDepth := 16) only [*, vX, ↓vD, vU, ↓vMd, vMu, vZ, seval]) | (simp (disch := first | assumption | omega | rfl | exact fun _ => rfl) only [vP]) | ((with_reducible first | apply gsnd | apply csnd | apply gsd | apply csd | apply gsn | apply csn | apply gs | apply cs_) <;> intro _) | (with_reducible refine objQ_i (fun _ _ => ?_); repeat with_reducible refine imp_i (fun _ => ?_)) | (with_reducible first | refine callH_use (hL) ?_ | refine pureQ_use (hL) ?_) | (with_reducible first | refine callH_use (hT) ?_ | refine pureQ_use (hT) ?_)))
end Go.Proofs.YtglekfgoadehbaaDoor.V
end
section
set_option linter.unusedSimpArgs false
set_option linter.unusedVariables false
/- fit.Take, fit.Most. -/
namespace Go.Proofs.YtglekfgoadehbaaDoor.V
open Go Go.Proofs
set_option maxRecDepth 100000
set_option maxHeartbeats 4000000
def takeF (f : List Seg) (n d : Int) (v : Vec) : List Seg × Int := if winE f n d v = 0 then rangeC f n (n + d) ⟨-v.m, -v.c⟩ else ([], winE f n d v)
theorem Take_c (f : List Seg) (hn : f.length ≤ 1000000) (n d : Int) (v : Vec) (t : Tok) :
    VPure Tryd.prog 14 [.sl (f.map Seg.a) t, num n, num d, v.a] (.tup [.sl ((takeF f n d v).1.map Seg.a) .no, num (takeF f n d v).2]) := by
  refine VPure.tokT (fun Z st => ?_)
  refine VCalls.of v_fit_Take_ok (Nat.le_of_ble_eq_true rfl) ?_
  simp only [v_fit_Take, ↓vD, vU, ↓vMd, vMu, vZ, seval, k_app, k_slc1]
  (repeat' (first | (simp (maxDischargeDepth := 16) only [*, num, Vec.a, vX, ↓vD, vU, ↓vMd, vMu, vZ, seval]) | (simp (disch := first | assumption | omega | rfl | exact fun _ => rfl) only [num, Vec.a, vP]) | ((with_reducible first | apply gsnd | apply csnd | apply gsd | apply csd | apply gsn | apply csn | apply gs | apply cs_) <;> intro _) | (with_reducible refine objQ_i (fun _ _ => ?_); repeat with_reducible refine imp_i (fun _ => ?_))))
  (rename_i b4 hb4 b5 hb5 n_b5_b4 n_b4_b5 b6 hb6 n_b6_b4 n_b4_b6 n_b6_b5 n_b5_b6 b7 hb7 n_b7_b4 n_b4_b7 n_b7_b5 n_b5_b7 n_b7_b6 n_b6_b7 b8 hb8 n_b8_b4 n_b4_b8 n_b8_b5 n_b5_b8 n_b8_b6 n_b6_b8 n_b8_b7 n_b7_b8)
  have hR := Range_c f hn t n (n + d) (-v.m) (-v.c)
  obtain ⟨w, hw⟩ : ∃ w, rangeC f n (n + d) ⟨-v.m, -v.c⟩ = w := ⟨_, rfl⟩
  rw [hw] at hR
  have HF : Hid (takeF f n d v = if winE f n d v = 0 then w else ([], winE f n d v)) := ⟨by unfold takeF; rw [hw]⟩
  clear hw
  obtain ⟨o, e⟩ := w
  simp only at hR
  refine callH_then (window_c (K := fun r s => r = num e ∧ s = ((((st.ins b4 (.cells [.sl (f.map Seg.a) t])).ins b5 (.cells [.int .i64 n])).ins b6 (.cells [.int .i64 d])).ins b7 (.cells [.int .i64 v.m, .int .i64 v.c])).ins b8 (.cells [.sl (o.map Seg.a) .no])) f hn n d v t ?_) ?_
  · intro hE
    obtain ⟨_, d1, d2, _, hv, d3, d4⟩ := win_ok hE
    have hwr : IntKind.i64.wrap (n + d) = n + d := wrap_i64 _ (by omega) (by omega)
    simp only [mayV, inR, Bool.and_eq_true, decide_eq_true_eq] at hv
    have hw1 : IntKind.i64.wrap (0 - v.m) = -v.m := by rw [wrap_i64 _ (by omega) (by omega)]; omega
    have hw2 : IntKind.i64.wrap (0 - v.c) = -v.c := by rw [wrap_i64 _ (by omega) (by omega)]; omega
    simp only [num] at hR
    clear hE hv
    refine VCalls.of v_fit_Take_1_ok (Nat.le_of_ble_eq_true rfl) ?_
    simp only [v_fit_Take_1, List.nil_append, List.cons_append, ↓vD, vU, ↓vMd, vMu, vZ, seval, k_app, k_slc1]
    (repeat' (first | (simp (maxDischargeDepth := 16) only [*, num, Vec.a, vX, ↓vD, vU, ↓vMd, vMu, vZ, seval]) | (simp (disch := first | assumption | omega | rfl | exact fun _ => rfl) only [num, Vec.a, vP]) | ((with_reducible first | apply gsnd | apply csnd | apply gsd | apply csd | apply gsn | apply csn | apply gs | apply cs_) <;> intro _) | (with_reducible refine objQ_i (fun _ _ => ?_); repeat with_reducible refine imp_i (fun _ => ?_)) | (with_reducible first | refine callH_use (hR) ?_ | refine pureQ_use (hR) ?_)))
  · rintro r s hK
    obtain ⟨E, hE⟩ : ∃ E, winE f n d v = E := ⟨_, rfl⟩
    rw [hE] at hK HF
    by_cases h0 : E = 0
    · subst h0
      rw [if_pos rfl] at hK HF
      rw [HF.out]
      obtain ⟨rfl, rfl⟩ := hK
      (repeat' (first | (simp (maxDischargeDepth := 16) only [*, num, Vec.a, vX, ↓vD, vU, ↓vMd, vMu, vZ, seval]) | (simp (disch := first | assumption | omega | rfl | exact fun _ => rfl) only [num, Vec.a, vP]) | ((with_reducible first | apply gsnd | apply csnd | apply gsd | apply csd | apply gsn | apply csn | apply gs | apply cs_) <;> intro _) | (with_reducible refine objQ_i (fun _ _ => ?_); repeat with_reducible refine imp_i (fun _ => ?_))))
      all_goals first | done | exact ⟨_, by (refine ⟨fun i o e => ?_, fun _ h => h⟩; revert e; simp only [St.ins, St.del, add_objs, kill_objs]; (repeat' split); all_goals (first | exact id | (intros; contradiction) | (intros; subst_vars; contradiction) | (intros; simp_all; done) | (intros; subst_vars; simp_all; done))), _, rfl, rfl⟩
    · rw [if_neg h0] at hK HF
      rw [HF.out]
      obtain ⟨rfl, rfl⟩ := hK
      (repeat' (first | (simp (maxDischargeDepth := 16) only [*, num, Vec.a, vX, ↓vD, vU, ↓vMd, vMu, vZ, seval]) | (simp (disch := first | assumption | omega | rfl | exact fun _ => rfl) only [num, Vec.a, vP]) | ((with_reducible first | apply gsnd | apply csnd | apply gsd | apply csd | apply gsn | apply csn | apply gs | apply cs_) <;> intro _) | (with_reducible refine objQ_i (fun _ _ => ?_); repeat with_reducible refine imp_i (fun _ => ?_))))
      all_goals first | done | exact ⟨_, by (refine ⟨fun i o e => ?_, fun _ h => h⟩; revert e; simp only [St.ins, St.del, add_objs, kill_objs]; (repeat' split); all_goals (first | exact id | (intros; contradiction) | (intros; subst_vars; contradiction) | (intros; simp_all; done) | (intros; subst_vars; simp_all; done))), _, rfl, rfl⟩
def mostF (f : List Seg) (n d : Int) (u : Vec) : Int × Int := if mayF f = true ∧ (u.m < 1 ∨ u.c < 1) then (0, 2) else if winE f n d u = 0 then unitsE (leastF minV f n (n + d)) u else (0, winE f n d u)
theorem Most_c (f : List Seg) (hn : f.length ≤ 1000000) (n d : Int) (u : Vec) (t : Tok) :
    VPure Tryd.prog 16 [.sl (f.map Seg.a) t, num n, num d, u.a] (.tup [num (mostF f n d u).1, num (mostF f n d u).2]) := fun Z st => by
  have hmay := May_F f (by omega) t
  by_cases hu : mayF f = true ∧ (u.m < 1 ∨ u.c < 1)
  · have e : mostF f n d u = (0, 2) := by unfold mostF; rw [if_pos hu]
    rw [e]
    obtain ⟨h1, h2⟩ := hu
    rw [h1] at hmay
    clear e h1
    refine VCalls.of v_fit_Most_ok (Nat.le_of_ble_eq_true rfl) ?_
    simp only [v_fit_Most, ↓vD, vU, ↓vMd, vMu, vZ, seval, k_app, k_slc1]
    (repeat' (first | (simp (maxDischargeDepth := 16) only [*, num, Vec.a, vX, ↓vD, vU, ↓vMd, vMu, vZ, seval]) | (simp (disch := first | assumption | omega | rfl | exact fun _ => rfl) only [num, Vec.a, vP]) | ((with_reducible first | apply gsnd | apply csnd | apply gsd | apply csd | apply gsn | apply csn | apply gs | apply cs_) <;> intro _) | (with_reducible refine objQ_i (fun _ _ => ?_); repeat with_reducible refine imp_i (fun _ => ?_)) | (with_reducible first | refine callH_use (hmay) ?_ | refine pureQ_use (hmay) ?_)))
    all_goals first | done | exact ⟨_, by (refine ⟨fun i o e => ?_, fun _ h => h⟩; revert e; simp only [St.ins, St.del, add_objs, kill_objs]; (repeat' split); all_goals (first | exact id | (intros; contradiction) | (intros; subst_vars; contradiction) | (intros; simp_all; done) | (intros; subst_vars; simp_all; done))), rfl, rfl⟩ | (refine ⟨fun i o e => ?_, fun _ h => h⟩; revert e; simp only [St.ins, St.del, add_objs, kill_objs]; (repeat' split); all_goals (first | exact id | (intros; contradiction) | (intros; subst_vars; contradiction) | (intros; simp_all; done) | (intros; subst_vars; simp_all; done))) | trace_state
  have HF : Hid (mostF f n d u = if winE f n d u = 0 then unitsE (leastF minV f n (n + d)) u else (0, winE f n d u)) := ⟨by unfold mostF; rw [if_neg hu]⟩
  have HU : Hid (winE f n d u = 0 → 1 ≤ u.m ∧ 1 ≤ u.c) := ⟨fun h => by have := (win_ok h).1; by_cases h1 : u.m < 1 ∨ u.c < 1; exact absurd ⟨this, h1⟩ hu; omega⟩
  have hnot : mayF f = true → ¬ (u.m < 1) ∧ ¬ (u.c < 1) := fun h => by by_cases h1 : u.m < 1 ∨ u.c < 1; exact absurd ⟨h, h1⟩ hu; omega
  obtain ⟨mf, hmf⟩ : ∃ m, mayF f = m := ⟨_, rfl⟩
  rw [hmf] at hmay hnot
  clear hmf hu
  have hLow := Low_c f hn n (n + d) t
  obtain ⟨w, hw⟩ : ∃ w, leastF minV f n (n + d) = w := ⟨_, rfl⟩
  rw [hw] at hLow HF
  clear hw
  have hUn := Units_v w.m w.c u.m u.c
  obtain ⟨x, hx⟩ : ∃ x, unitsE w u = x := ⟨_, rfl⟩
  rw [hx] at HF
  rw [show unitsE ⟨w.m, w.c⟩ ⟨u.m, u.c⟩ = x from hx] at hUn
  clear hx
  obtain ⟨q, e⟩ := x
  simp only at hUn
  refine VCalls.of v_fit_Most_ok (Nat.le_of_ble_eq_true rfl) ?_
  simp only [v_fit_Most, ↓vD, vU, ↓vMd, vMu, vZ, seval, k_app, k_slc1]
  cases mf
  all_goals
    have hnot2 := hnot
    simp only [Bool.false_eq_true, false_implies, true_implies, forall_const] at hnot2
    clear hnot
    (repeat' (first | (simp (maxDischargeDepth := 16) only [*, num, Vec.a, vX, ↓vD, vU, ↓vMd, vMu, vZ, seval]) | (simp (disch := first | assumption | omega | rfl | exact fun _ => rfl) only [num, Vec.a, vP]) | ((with_reducible first | apply gsnd | apply csnd | apply gsd | apply csd | apply gsn | apply csn | apply gs | apply cs_) <;> intro _) | (with_reducible refine objQ_i (fun _ _ => ?_); repeat with_reducible refine imp_i (fun _ => ?_)) | (with_reducible first | refine callH_use (hmay) ?_ | refine pureQ_use (hmay) ?_)))
  all_goals
    (rename_i b4 hb4 b5 hb5 n_b5_b4 n_b4_b5 b6 hb6 n_b6_b4 n_b4_b6 n_b6_b5 n_b5_b6 b7 hb7 n_b7_b4 n_b4_b7 n_b7_b5 n_b5_b7 n_b7_b6 n_b6_b7 b8 hb8 n_b8_b4 n_b4_b8 n_b8_b5 n_b5_b8 n_b8_b6 n_b6_b8 n_b8_b7 n_b7_b8)
    refine callH_then (window_c (K := fun r s => r = num e ∧ s = ((((st.ins b4 (.cells [.sl (f.map Seg.a) t])).ins b5 (.cells [.int .i64 n])).ins b6 (.cells [.int .i64 d])).ins b7 (.cells [.int .i64 u.m, .int .i64 u.c])).ins b8 (.cells [.int .i64 q])) f hn n d u t ?_) ?_
    · intro hE
      have hO := over_ok hE
      rw [hO, if_pos rfl] at hLow
      obtain ⟨_, d1, d2, _, _, d3, d4⟩ := win_ok hE
      have hwr : IntKind.i64.wrap (n + d) = n + d := wrap_i64 _ (by omega) (by omega)
      simp only [num, Vec.a] at hLow
      clear hE hO
      refine VCalls.of v_fit_Most_1_ok (Nat.le_of_ble_eq_true rfl) ?_
      simp only [v_fit_Most_1, List.nil_append, List.cons_append, ↓vD, vU, ↓vMd, vMu, vZ, seval, k_app, k_slc1]
      (repeat' (first | (simp (maxDischargeDepth := 16) only [*, num, Vec.a, vX, ↓vD, vU, ↓vMd, vMu, vZ, seval]) | (simp (disch := first | assumption | omega | rfl | exact fun _ => rfl) only [num, Vec.a, vP]) | ((with_reducible first | apply gsnd | apply csnd | apply gsd | apply csd | apply gsn | apply csn | apply gs | apply cs_) <;> intro _) | (with_reducible refine objQ_i (fun _ _ => ?_); repeat with_reducible refine imp_i (fun _ => ?_)) | (with_reducible first | refine callH_use (hLow) ?_ | refine pureQ_use (hLow) ?_) | (with_reducible first | refine callH_use (hUn) ?_ | refine pureQ_use (hUn) ?_)))
    · rintro r s hK
      obtain ⟨E, hE⟩ : ∃ E, winE f n d u = E := ⟨_, rfl⟩
      rw [hE] at hK HF
      by_cases h0 : E = 0
      · subst h0
        rw [if_pos rfl] at hK HF
        rw [HF.out]
        obtain ⟨rfl, rfl⟩ := hK
        (repeat' (first | (simp (maxDischargeDepth := 16) only [*, num, Vec.a, vX, ↓vD, vU, ↓vMd, vMu, vZ, seval]) | (simp (disch := first | assumption | omega | rfl | exact fun _ => rfl) only [num, Vec.a, vP]) | ((with_reducible first | apply gsnd | apply csnd | apply gsd | apply csd | apply gsn | apply csn | apply gs | apply cs_) <;> intro _) | (with_reducible refine objQ_i (fun _ _ => ?_); repeat with_reducible refine imp_i (fun _ => ?_))))
        all_goals first | done | exact ⟨_, by (refine ⟨fun i o e => ?_, fun _ h => h⟩; revert e; simp only [St.ins, St.del, add_objs, kill_objs]; (repeat' split); all_goals (first | exact id | (intros; contradiction) | (intros; subst_vars; contradiction) | (intros; simp_all; done) | (intros; subst_vars; simp_all; done))), rfl, rfl⟩
      · rw [if_neg h0] at hK HF
        rw [HF.out]
        obtain ⟨rfl, rfl⟩ := hK
        (repeat' (first | (simp (maxDischargeDepth := 16) only [*, num, Vec.a, vX, ↓vD, vU, ↓vMd, vMu, vZ, seval]) | (simp (disch := first | assumption | omega | rfl | exact fun _ => rfl) only [num, Vec.a, vP]) | ((with_reducible first | apply gsnd | apply csnd | apply gsd | apply csd | apply gsn | apply csn | apply gs | apply cs_) <;> intro _) | (with_reducible refine objQ_i (fun _ _ => ?_); repeat with_reducible refine imp_i (fun _ => ?_))))
        all_goals first | done | exact ⟨_, by (refine ⟨fun i o e => ?_, fun _ h => h⟩; revert e; simp only [St.ins, St.del, add_objs, kill_objs]; (repeat' split); all_goals (first | exact id | (intros; contradiction) | (intros; subst_vars; contradiction) | (intros; simp_all; done) | (intros; subst_vars; simp_all; done))), rfl, rfl⟩
end Go.Proofs.YtglekfgoadehbaaDoor.V
end
section
set_option linter.unusedSimpArgs false
set_option linter.unusedVariables false
/- What is free, in plain Lean. -/
namespace Go.Proofs.YtglekfgoadehbaaDoor.V
open Go Go.Proofs
theorem of_rise (h : Int → Vec) (ts : List Int) (hts : ts.Pairwise (· < ·)) (hin : ∀ t ∈ ts, inR t = true ∧ mayV (h t) = true) :
    ofF (ts.map fun t => ⟨t, h t⟩) = (withs h ts [], 0) ∧ mayF (withs h ts []) = true ∧ ∀ u, atF (withs h ts []) u = lastH h ts v0 u := by
  obtain ⟨w1, w2, w3⟩ := withs_spec h ts [] hts trivial (by simp)
  have hmap : (ts.map fun t => (⟨t, h t⟩ : Seg)).map (·.t) = ts := by rw [List.map_map]; simp [Function.comp_def]
  have hall : (ts.map fun t => (⟨t, h t⟩ : Seg)).all inSeg = true := by
    rw [List.all_eq_true]
    intro x hx
    obtain ⟨t, ht, rfl⟩ := List.mem_map.1 hx
    obtain ⟨h1, h2⟩ := hin t ht
    simp [inSeg, h1, h2]
  have hfold : foldF (ts.map fun t => (⟨t, h t⟩ : Seg)) = withs h ts [] := by
    unfold foldF
    rw [srt_self (by rw [hmap]; exact hts)]
    have := fold_withs (ts.map fun t => (⟨t, h t⟩ : Seg)) [] (by rw [hmap]; exact hts)
    have e : lastW [] = v0 := rfl
    rw [e] at this
    rw [this]
    unfold withs
    rw [List.foldl_map]
  refine ⟨by unfold ofF; rw [hall, if_pos rfl, hfold], ?_, fun u => w3 u⟩
  rw [mayF_iff]
  refine ⟨w1, fun x hx => ?_⟩
  rcases w2 x hx with hx | ⟨t, ht, rfl⟩
  · simp at hx
  · obtain ⟨h1, h2⟩ := hin t ht
    simp [inSeg, h1, h2]
def behindF (f : List Seg) (a : Int) : List Seg := (ofF (⟨a, atF f a⟩ :: f.filter fun x => decide (a < x.t))).1
theorem behind_law {f : List Seg} (hf : mayF f = true) {a : Int} (ha : inR a = true) : mayF (behindF f a) = true ∧ ∀ s, atF (behindF f a) s = if s < a then v0 else atF f s := by
  have hc := may_canon hf
  have hup := hc.up
  have hraw : (⟨a, atF f a⟩ :: f.filter fun x => decide (a < x.t)) = ((a :: (f.filter fun x => decide (a < x.t)).map (·.t)).map fun t => (⟨t, atF f t⟩ : Seg)) := by
    rw [List.map_cons, List.map_map]
    congr 1
    refine (List.map_id _).symm.trans (List.map_congr_left fun x hx => ?_)
    have hx' := (List.mem_filter.1 hx).1
    have := canon_self f v0 hc x hx'
    show x = ⟨x.t, atF f x.t⟩
    rw [atF_P, this]
  have hts : (a :: (f.filter fun x => decide (a < x.t)).map (·.t)).Pairwise (· < ·) := by
    rw [List.pairwise_cons]
    refine ⟨fun t ht => ?_, hup.sublist (List.Sublist.map _ List.filter_sublist)⟩
    obtain ⟨x, hx, rfl⟩ := List.mem_map.1 ht
    have := (List.mem_filter.1 hx).2
    simpa using this
  obtain ⟨r1, r2, r3⟩ := of_rise (fun t => atF f t) _ hts (fun t ht => by
    refine ⟨?_, may_at hf t⟩
    rcases List.mem_cons.1 ht with rfl | ht
    · exact ha
    · obtain ⟨x, hx, rfl⟩ := List.mem_map.1 ht
      have := ((mayF_iff f).1 hf).2 x ((List.mem_filter.1 hx).1)
      unfold inSeg at this
      rw [Bool.and_eq_true] at this
      exact this.1)
  unfold behindF
  rw [hraw, r1]
  refine ⟨r2, fun s => ?_⟩
  rw [r3]
  rcases lastH_at (fun t => atF f t) _ v0 s hts with ⟨e, hn⟩ | ⟨u, hu, h1, h2, h3⟩
  · have := hn a (by simp)
    rw [if_pos this]; exact e
  · have hau : a ≤ u := by
      rcases List.mem_cons.1 hu with rfl | hu
      · exact Int.le_refl _
      · obtain ⟨x, hx, rfl⟩ := List.mem_map.1 hu
        have := (List.mem_filter.1 hx).2
        simp at this; omega
    rw [if_neg (by omega), h2]
    refine (atF_between f u s h1 fun x hx hc => ?_).symm
    have := h3 x.t (List.mem_cons_of_mem _ (List.mem_map.2 ⟨x, List.mem_filter.2 ⟨hx, by simp; omega⟩, rfl⟩)) hc.2
    omega
def alwaysF (v : Vec) (a : Int) : List Seg := (ofF [⟨a, v⟩]).1
theorem always_law {v : Vec} (hv : mayV v = true) {a : Int} (ha : inR a = true) : mayF (alwaysF v a) = true ∧ ∀ s, atF (alwaysF v a) s = if s < a then v0 else v := by
  obtain ⟨r1, r2, r3⟩ := of_rise (fun _ => v) [a] (by simp) (fun t ht => by simp at ht; subst ht; exact ⟨ha, hv⟩)
  unfold alwaysF
  have e : ([⟨a, v⟩] : List Seg) = [a].map fun t => ⟨t, (fun _ => v) t⟩ := rfl
  rw [e, r1]
  refine ⟨r2, fun s => ?_⟩
  rw [r3]
  simp only [lastH, List.foldl_cons, List.foldl_nil]
  by_cases h : s < a
  · rw [if_pos h, if_neg (by omega)]
  · rw [if_neg h, if_pos (by omega)]
structure Pol where
  k : Int
  cap : Vec
  win : Int
  deriving DecidableEq, Repr, Inhabited
def fullV : Vec := ⟨1125899906842624, 1125899906842624⟩
def boundF (c l o : List Seg) (a : Int) (p : Pol) : List Seg × Int := if p.k = 0 then doR 1 c l else if p.k = 1 then doR 1 (alwaysF p.cap a) o else (alwaysF fullV a, 0)
def allF (c l o : List Seg) (a : Int) : List Pol → List Seg → List Seg × Int
  | [], f => (f, 0)
  | p :: r, f => if (boundF c l o a p).2 = 0 then (if (doR 2 f (boundF c l o a p).1).2 = 0 then allF c l o a r (doR 2 f (boundF c l o a p).1).1 else ([], (doR 2 f (boundF c l o a p).1).2)) else ([], (boundF c l o a p).2)
def oddP (p : Pol) : Bool := decide (p.k = 1) && !mayV p.cap
def checkP (c l o : List Seg) (ps : List Pol) (a : Int) : Int := if mayF c && mayF l && mayF o then (if ps.any (fun p => decide (2 < p.k)) then 2 else if (farF a || ps.any oddP) then 10 else 0) else 5
def freeF (c l o : List Seg) (ps : List Pol) (a : Int) : List Seg × Int := if checkP c l o ps a ≠ 0 then ([], checkP c l o ps a) else allF (behindF c a) (behindF l a) (behindF o a) a ps (alwaysF fullV a)
def leP (c l o v : Vec) (p : Pol) : Prop := (p.k = 0 → l.m + v.m ≤ c.m ∧ l.c + v.c ≤ c.c) ∧ (p.k = 1 → o.m + v.m ≤ p.cap.m ∧ o.c + v.c ≤ p.cap.c)
theorem sub_ok {f g : List Seg} (hf : mayF f = true) (hg : mayF g = true) (h : (doR 1 f g).2 = 0) : mayF (doR 1 f g).1 = true ∧ ∀ s, (atF (doR 1 f g).1 s).m = (atF f s).m - (atF g s).m ∧ (atF (doR 1 f g).1 s).c = (atF f s).c - (atF g s).c := by
  obtain ⟨_, _, h3, h4⟩ := doR_may h
  refine ⟨h3, fun s => ?_⟩
  have := h4 s
  rw [sub_val _ _ (may_at hf s) (may_at hg s)] at this
  obtain ⟨e, _⟩ := told_ok this
  rw [← e]
  exact ⟨rfl, rfl⟩
theorem fullV_may : mayV fullV = true := by decide
theorem may_le_full {v : Vec} (h : mayV v = true) : leW v fullV = true := by
  rw [mayV_iff] at h
  have e : leW v fullV = (decide (v.m ≤ 1125899906842624) && decide (v.c ≤ 1125899906842624)) := rfl
  rw [e]
  simp only [Bool.and_eq_true, decide_eq_true_eq]; omega
theorem all_law {c l o : List Seg} (hc : mayF c = true) (hl : mayF l = true) (ho : mayF o = true) {a : Int} (ha : inR a = true) {v : Vec} (hv : mayV v = true) : ∀ (ps : List Pol) (f : List Seg), (∀ p ∈ ps, p.k = 1 → mayV p.cap = true) → mayF f = true → (allF c l o a ps f).2 = 0 →
    mayF (allF c l o a ps f).1 = true ∧ ∀ s, a ≤ s → (leW v (atF (allF c l o a ps f).1 s) = true ↔ leW v (atF f s) = true ∧ ∀ p ∈ ps, leP (atF c s) (atF l s) (atF o s) v p)
  | [], f, _, hf, _ => ⟨hf, fun s _ => by simp [allF]⟩
  | p :: r, f, hp, hf, h => by
    unfold allF at h ⊢
    by_cases hb : (boundF c l o a p).2 = 0
    case neg => rw [if_neg hb] at h; exact absurd h hb
    rw [if_pos hb] at h ⊢
    have key : mayF (boundF c l o a p).1 = true ∧ ∀ s, a ≤ s → (leW v (atF (boundF c l o a p).1 s) = true ↔ leP (atF c s) (atF l s) (atF o s) v p) := by
      unfold boundF at hb ⊢
      by_cases k0 : p.k = 0
      · rw [if_pos k0] at hb ⊢
        obtain ⟨q1, q2⟩ := sub_ok hc hl hb
        refine ⟨q1, fun s hs => ?_⟩
        obtain ⟨e1, e2⟩ := q2 s
        simp only [leW, Bool.and_eq_true, decide_eq_true_eq, leP, k0, forall_const, e1, e2]
        constructor
        · intro h; exact ⟨by omega, fun h => by omega⟩
        · intro h; omega
      · rw [if_neg k0] at hb ⊢
        by_cases k1 : p.k = 1
        · rw [if_pos k1] at hb ⊢
          obtain ⟨a1, a2⟩ := always_law (hp p (by simp) k1) ha
          obtain ⟨q1, q2⟩ := sub_ok a1 ho hb
          refine ⟨q1, fun s hs => ?_⟩
          obtain ⟨e1, e2⟩ := q2 s
          rw [a2 s, if_neg (by omega)] at e1 e2
          simp only [leW, Bool.and_eq_true, decide_eq_true_eq, leP, k1, forall_const, e1, e2]
          constructor
          · intro h; exact ⟨fun h => by omega, by omega⟩
          · intro h; omega
        · rw [if_neg k1]
          obtain ⟨a1, a2⟩ := always_law fullV_may ha
          refine ⟨a1, fun s hs => ?_⟩
          rw [a2 s, if_neg (by omega), may_le_full hv]
          simp [leP, k0, k1]
    obtain ⟨m1, m2, m3⟩ := min_ok f (boundF c l o a p).1 hf key.1
    rw [if_pos m1] at h ⊢
    obtain ⟨i1, i2⟩ := all_law hc hl ho ha hv r _ (fun q hq => hp q (by simp [hq])) m2 h
    refine ⟨i1, fun s hs => ?_⟩
    rw [i2 s hs, m3 s]
    have hmin : leW v (minV (atF f s) (atF (boundF c l o a p).1 s)) = true ↔ leW v (atF f s) = true ∧ leW v (atF (boundF c l o a p).1 s) = true := by
      have e : leW v (minV (atF f s) (atF (boundF c l o a p).1 s)) = (decide (v.m ≤ min (atF f s).m (atF (boundF c l o a p).1 s).m) && decide (v.c ≤ min (atF f s).c (atF (boundF c l o a p).1 s).c)) := rfl
      rw [e]
      simp only [leW, Bool.and_eq_true, decide_eq_true_eq, Int.le_min]
      constructor
      · rintro ⟨⟨a, b⟩, c, d⟩; exact ⟨⟨a, c⟩, b, d⟩
      · rintro ⟨⟨a, c⟩, b, d⟩; exact ⟨⟨a, b⟩, c, d⟩
    rw [hmin, key.2 s hs]
    simp only [List.mem_cons, forall_eq_or_imp]
    rw [and_assoc]
end Go.Proofs.YtglekfgoadehbaaDoor.V
end
section
set_option linter.unusedSimpArgs false
set_option linter.unusedVariables false
/- fit's form, always, none, commit, user. -/
namespace Go.Proofs.YtglekfgoadehbaaDoor.V
open Go Go.Proofs
set_option maxRecDepth 100000
set_option maxHeartbeats 4000000
def Pol.a (p : Pol) : AV := .agg [.int .u8 p.k, .int .i64 p.cap.m, .int .i64 p.cap.c, .int .i64 p.win]
theorem form_v (f g h : List Seg) (hf : f.length ≤ 1000000) (hg : g.length ≤ 1000000) (hh : h.length ≤ 1000000) (t1 t2 t3 t : Tok) : VPure Tryd.prog 41 [.sl [.sl (f.map Seg.a) t1, .sl (g.map Seg.a) t2, .sl (h.map Seg.a) t3] t] (.bool (mayF f && mayF g && mayF h)) := by
  refine VPure.of v_fit_form_ok (Nat.le_of_ble_eq_true rfl) (fun Z st => ?_)
  have m1 := May_F f (by omega) t1
  have m2 := May_F g (by omega) t2
  have m3 := May_F h (by omega) t3
  obtain ⟨a, ha⟩ : ∃ a, mayF f = a := ⟨_, rfl⟩
  obtain ⟨b, hb⟩ : ∃ a, mayF g = a := ⟨_, rfl⟩
  obtain ⟨c, hc⟩ : ∃ a, mayF h = a := ⟨_, rfl⟩
  rw [ha] at m1 ⊢
  rw [hb] at m2 ⊢
  rw [hc] at m3 ⊢
  clear ha hb hc
  have i1 : viad 1 (.sl [.sl (f.map Seg.a) t1, .sl (g.map Seg.a) t2, .sl (h.map Seg.a) t3] t) (.int .i64 1) = some (.iptr (.sl (g.map Seg.a) t2) 0) := by simp [viad, AV.cells]
  have i2 : viad 1 (.sl [.sl (f.map Seg.a) t1, .sl (g.map Seg.a) t2, .sl (h.map Seg.a) t3] t) (.int .i64 2) = some (.iptr (.sl (h.map Seg.a) t3) 0) := by simp [viad, AV.cells]
  simp only [v_fit_form, ↓vD, vU, ↓vMd, vMu, vZ, seval, k_app, k_slc1]
  (repeat' (first | (simp (maxDischargeDepth := 16) only [*, vX, ↓vD, vU, ↓vMd, vMu, vZ, seval]) | (simp (disch := first | assumption | omega | rfl | exact fun _ => rfl) only [vP]) | ((with_reducible first | apply gsnd | apply csnd | apply gsd | apply csd | apply gsn | apply csn | apply gs | apply cs_) <;> intro _)))
  refine loopp_of (len := 3) (by simp only [asgL, dsts, List.cons_append, List.nil_append, List.append_nil]; rfl) (by simp only [noR, Bool.and_true, Bool.and_false]; rfl) (by omega) (fun k fr => fr.t 7 = .int .i64 k ∧ (0 < k → a = true) ∧ (1 < k → b = true) ∧ (2 < k → c = true)) ?_ ?_ ?_
  · refine ⟨by simp [↓vD, vU, ↓vMd, vMu, vZ, seval, k_app, k_slc1], ?_, ?_, ?_⟩ <;> omega
  · rintro k fr hk hwk hfr hd ⟨h7, k1, k2, k3⟩
    have hk3 : k = 0 ∨ k = 1 ∨ k = 2 := by omega
    rcases hk3 with rfl | rfl | rfl
    · clear k1 k2 k3
      cases a
      · (repeat' (first | (simp (maxDischargeDepth := 16) only [*, vX, ↓vD, vU, ↓vMd, vMu, vZ, seval]) | (simp (disch := first | assumption | omega | rfl | exact fun _ => rfl) only [vP]) | ((with_reducible first | apply gsnd | apply csnd | apply gsd | apply csd | apply gsn | apply csn | apply gs | apply cs_) <;> intro _) | (with_reducible first | refine callH_use (m1) ?_ | refine pureQ_use (m1) ?_)))
        all_goals first | done | simp
      · (repeat' (first | (simp (maxDischargeDepth := 16) only [*, vX, ↓vD, vU, ↓vMd, vMu, vZ, seval]) | (simp (disch := first | assumption | omega | rfl | exact fun _ => rfl) only [vP]) | ((with_reducible first | apply gsnd | apply csnd | apply gsd | apply csd | apply gsn | apply csn | apply gs | apply cs_) <;> intro _) | (with_reducible first | refine callH_use (m1) ?_ | refine pureQ_use (m1) ?_)))
        all_goals first | done | simp
    · obtain rfl := k1 (by omega)
      clear k1 k2 k3
      cases b
      · (repeat' (first | (simp (maxDischargeDepth := 16) only [*, i1, vX, ↓vD, vU, ↓vMd, vMu, vZ, seval]) | (simp (disch := first | assumption | omega | rfl | exact fun _ => rfl) only [i1, vP]) | ((with_reducible first | apply gsnd | apply csnd | apply gsd | apply csd | apply gsn | apply csn | apply gs | apply cs_) <;> intro _) | (with_reducible first | refine callH_use (m2) ?_ | refine pureQ_use (m2) ?_)))
        all_goals first | done | simp
      · (repeat' (first | (simp (maxDischargeDepth := 16) only [*, i1, vX, ↓vD, vU, ↓vMd, vMu, vZ, seval]) | (simp (disch := first | assumption | omega | rfl | exact fun _ => rfl) only [i1, vP]) | ((with_reducible first | apply gsnd | apply csnd | apply gsd | apply csd | apply gsn | apply csn | apply gs | apply cs_) <;> intro _) | (with_reducible first | refine callH_use (m2) ?_ | refine pureQ_use (m2) ?_)))
        all_goals first | done | simp
    · obtain rfl := k1 (by omega)
      obtain rfl := k2 (by omega)
      clear k1 k2 k3
      cases c
      · (repeat' (first | (simp (maxDischargeDepth := 16) only [*, i2, vX, ↓vD, vU, ↓vMd, vMu, vZ, seval]) | (simp (disch := first | assumption | omega | rfl | exact fun _ => rfl) only [i2, vP]) | ((with_reducible first | apply gsnd | apply csnd | apply gsd | apply csd | apply gsn | apply csn | apply gs | apply cs_) <;> intro _) | (with_reducible first | refine callH_use (m3) ?_ | refine pureQ_use (m3) ?_)))
        all_goals first | done | simp
      · (repeat' (first | (simp (maxDischargeDepth := 16) only [*, i2, vX, ↓vD, vU, ↓vMd, vMu, vZ, seval]) | (simp (disch := first | assumption | omega | rfl | exact fun _ => rfl) only [i2, vP]) | ((with_reducible first | apply gsnd | apply csnd | apply gsd | apply csd | apply gsn | apply csn | apply gs | apply cs_) <;> intro _) | (with_reducible first | refine callH_use (m3) ?_ | refine pureQ_use (m3) ?_)))
        all_goals first | done | simp
  · rintro fr hfr hd ⟨h7, k1, k2, k3⟩
    obtain rfl := k1 (by omega)
    obtain rfl := k2 (by omega)
    obtain rfl := k3 (by omega)
    clear k1 k2 k3
    (repeat' (first | (simp (maxDischargeDepth := 16) only [*, vX, ↓vD, vU, ↓vMd, vMu, vZ, seval]) | (simp (disch := first | assumption | omega | rfl | exact fun _ => rfl) only [vP]) | ((with_reducible first | apply gsnd | apply csnd | apply gsd | apply csd | apply gsn | apply csn | apply gs | apply cs_) <;> intro _)))
theorem always_v (v : Vec) (a : Int) : VPure Tryd.prog 44 [.agg [.int .i64 v.m, .int .i64 v.c], .int .i64 a] (.sl ((alwaysF v a).map Seg.a) .no) := by
  refine VPure.of v_fit_always_ok (Nat.le_of_ble_eq_true rfl) (fun Z st => ?_)
  have hO := Of_v [⟨a, v⟩] (by simp) .full
  obtain ⟨w, hw⟩ : ∃ w, ofF [⟨a, v⟩] = w := ⟨_, rfl⟩
  have e : alwaysF v a = w.1 := by unfold alwaysF; rw [hw]
  rw [hw] at hO
  rw [e]
  simp only [List.map_cons, List.map_nil, Seg.a, num] at hO
  clear hw e
  simp only [v_fit_always, ↓vD, vU, ↓vMd, vMu, vZ, seval, k_app, k_slc1]
  (repeat' (first | (simp (maxDischargeDepth := 16) only [*, vX, ↓vD, vU, ↓vMd, vMu, vZ, seval]) | (simp (disch := first | assumption | omega | rfl | exact fun _ => rfl) only [vP]) | ((with_reducible first | apply gsnd | apply csnd | apply gsd | apply csd | apply gsn | apply csn | apply gs | apply cs_) <;> intro _) | (with_reducible refine objQ_i (fun _ _ => ?_); repeat with_reducible refine imp_i (fun _ => ?_)) | (with_reducible first | refine callH_use (hO) ?_ | refine pureQ_use (hO) ?_)))
theorem ofF_len (xs : List Seg) : (ofF xs).1.length ≤ xs.length := by
  unfold ofF; split
  · exact foldF_len xs
  · simp
theorem always_len (v : Vec) (a : Int) : (alwaysF v a).length ≤ 1 := by have := ofF_len [⟨a, v⟩]; simpa [alwaysF] using this
def givA (c l o : List Seg) (t1 t2 t3 : Tok) (a : Int) : AV := .agg [.sl (c.map Seg.a) t1, .sl (l.map Seg.a) t2, .sl (o.map Seg.a) t3, .int .i64 a]
theorem none_v (c l o : List Seg) (t1 t2 t3 : Tok) (a : Int) (p : Pol) : VPure Tryd.prog 71 [givA c l o t1 t2 t3 a, p.a] (.tup [.sl ((alwaysF fullV a).map Seg.a) .no, .int .i64 0]) := by
  refine VPure.of v_fit_none_ok (Nat.le_of_ble_eq_true rfl) (fun Z st => ?_)
  have hA := always_v fullV a
  simp only [fullV] at hA
  simp only [v_fit_none, givA, Pol.a, fullV, ↓vD, vU, ↓vMd, vMu, vZ, seval, k_app, k_slc1]
  (repeat' (first | (simp (maxDischargeDepth := 16) only [*, vX, ↓vD, vU, ↓vMd, vMu, vZ, seval]) | (simp (disch := first | assumption | omega | rfl | exact fun _ => rfl) only [vP]) | ((with_reducible first | apply gsnd | apply csnd | apply gsd | apply csd | apply gsn | apply csn | apply gs | apply cs_) <;> intro _) | (with_reducible refine objQ_i (fun _ _ => ?_); repeat with_reducible refine imp_i (fun _ => ?_)) | (with_reducible first | refine callH_use (hA) ?_ | refine pureQ_use (hA) ?_)))
  all_goals first | done | trace_state
theorem commit_v (c l o : List Seg) (hc : c.length ≤ 1000000) (hl : l.length ≤ 1000000) (t1 t2 t3 : Tok) (a : Int) (p : Pol) : VPure Tryd.prog 69 [givA c l o t1 t2 t3 a, p.a] (.tup [.sl ((madeF subV c l).1.map Seg.a) .no, .int .i64 (madeF subV c l).2]) := by
  refine VPure.of v_fit_commit_ok (Nat.le_of_ble_eq_true rfl) (fun Z st => ?_)
  have hS := Sub_c c l hc hl t1 t2
  simp only [num] at hS
  simp only [v_fit_commit, givA, Pol.a, ↓vD, vU, ↓vMd, vMu, vZ, seval, k_app, k_slc1]
  (repeat' (first | (simp (maxDischargeDepth := 16) only [*, vX, ↓vD, vU, ↓vMd, vMu, vZ, seval]) | (simp (disch := first | assumption | omega | rfl | exact fun _ => rfl) only [vP]) | ((with_reducible first | apply gsnd | apply csnd | apply gsd | apply csd | apply gsn | apply csn | apply gs | apply cs_) <;> intro _) | (with_reducible refine objQ_i (fun _ _ => ?_); repeat with_reducible refine imp_i (fun _ => ?_)) | (with_reducible first | refine callH_use (hS) ?_ | refine pureQ_use (hS) ?_)))
  all_goals first | done | trace_state
theorem user_v (c l o : List Seg) (ho : o.length ≤ 1000000) (t1 t2 t3 : Tok) (a : Int) (p : Pol) : VPure Tryd.prog 70 [givA c l o t1 t2 t3 a, p.a] (.tup [.sl ((madeF subV (alwaysF p.cap a) o).1.map Seg.a) .no, .int .i64 (madeF subV (alwaysF p.cap a) o).2]) := by
  refine VPure.of v_fit_user_ok (Nat.le_of_ble_eq_true rfl) (fun Z st => ?_)
  have hA := always_v p.cap a
  have hl := always_len p.cap a
  obtain ⟨w, hw⟩ : ∃ w, alwaysF p.cap a = w := ⟨_, rfl⟩
  rw [hw] at hA hl ⊢
  have hS := Sub_c w o (by omega) ho .no t3
  simp only [num] at hS
  clear hw
  simp only [v_fit_user, givA, Pol.a, ↓vD, vU, ↓vMd, vMu, vZ, seval, k_app, k_slc1]
  (repeat' (first | (simp (maxDischargeDepth := 16) only [*, vX, ↓vD, vU, ↓vMd, vMu, vZ, seval]) | (simp (disch := first | assumption | omega | rfl | exact fun _ => rfl) only [vP]) | ((with_reducible first | apply gsnd | apply csnd | apply gsd | apply csd | apply gsn | apply csn | apply gs | apply cs_) <;> intro _) | (with_reducible refine objQ_i (fun _ _ => ?_); repeat with_reducible refine imp_i (fun _ => ?_)) | (with_reducible first | refine callH_use (hA) ?_ | refine pureQ_use (hA) ?_) | (with_reducible first | refine callH_use (hS) ?_ | refine pureQ_use (hS) ?_)))
  all_goals first | done | trace_state
end Go.Proofs.YtglekfgoadehbaaDoor.V
end
section
set_option linter.unusedSimpArgs false
set_option linter.unusedVariables false
/- fit's behind, check. -/
namespace Go.Proofs.YtglekfgoadehbaaDoor.V
open Go Go.Proofs
set_option maxRecDepth 100000
set_option maxHeartbeats 4000000
theorem behind_v (f : List Seg) (hf : f.length ≤ 1000000) (t : Tok) (a : Int) : VPure Tryd.prog 23 [.sl (f.map Seg.a) t, .int .i64 a] (.sl ((behindF f a).map Seg.a) .no) := by
  refine VPure.tok (fun Z st => ?_)
  have hA := At_v f (by omega) t a
  simp only [num] at hA
  obtain ⟨u, hu⟩ : ∃ u, atF f a = u := ⟨_, rfl⟩
  have HB : Hid (behindF f a = (ofF (⟨a, u⟩ :: f.filter fun x => decide (a < x.t))).1) := ⟨by unfold behindF; rw [hu]⟩
  rw [hu] at hA
  clear hu
  refine VCalls.of v_fit_behind_ok (Nat.le_of_ble_eq_true rfl) ?_
  simp only [v_fit_behind, ↓vD, vU, ↓vMd, vMu, vZ, seval, k_app, k_slc1]
  (repeat' (first | (simp (maxDischargeDepth := 16) only [*, vX, ↓vD, vU, ↓vMd, vMu, vZ, seval]) | (simp (disch := first | assumption | omega | rfl | exact fun _ => rfl) only [vP]) | ((with_reducible first | apply gsnd | apply csnd | apply gsd | apply csd | apply gsn | apply csn | apply gs | apply cs_) <;> intro _) | (with_reducible refine objQ_i (fun _ _ => ?_); repeat with_reducible refine imp_i (fun _ => ?_)) | ((try with_reducible refine appK_a ?_); first | (with_reducible refine appD_F (by refine ⟨?_, ?_, ?_, ?_⟩ <;> (first | assumption | omega | exact St.has_add (by assumption) | (simp only [ins_has]; exact St.has_add (by assumption)) | (simp only [ins_has, fresh_ins, kill_ins, add_ins] at *; exact St.has_add (by assumption)) | (simp only [*, ins_has, has_full, St.has_add]; done) | (simp [-List.map_take, -List.map_drop, or_imp, forall_and, Seg.a, Vec.a, Leg.a, num, okEl, cells_agg, cells_int, cells_sl, cells_bool, AV.isCell]; done) | (simp; omega))) (fun _ _ => ?_)) | (with_reducible refine appD_V (by refine ⟨?_, ?_, ?_, ?_, ?_⟩ <;> (first | assumption | omega | exact St.has_add (by assumption) | (simp only [ins_has]; exact St.has_add (by assumption)) | (simp only [ins_has, fresh_ins, kill_ins, add_ins] at *; exact St.has_add (by assumption)) | (simp only [*, ins_has, has_full, St.has_add]; done) | (simp [-List.map_take, -List.map_drop, or_imp, forall_and, Seg.a, Vec.a, Leg.a, num, okEl, cells_agg, cells_int, cells_sl, cells_bool, AV.isCell]; done) | (simp; omega))) (fun _ _ => ?_))) | (with_reducible refine freshQ_i (fun _ _ => ?_)) | (with_reducible first | refine callH_use (hA) ?_ | refine pureQ_use (hA) ?_)))
  refine loopf_of (len := f.length) (by simp only [asgL, dsts, List.cons_append, List.nil_append, List.append_nil]; rfl) (by simp only [noR, Bool.and_true, Bool.and_false]; rfl) (by omega) (fun k fr s => ∃ acc tk, Ours 3 st s tk ∧ fr.t 18 = .int .i64 k ∧ fr.t 5 = .sl (acc.map Seg.a) tk ∧ acc.length ≤ k + 1 ∧ Hid (acc = ⟨a, u⟩ :: (f.take k).filter fun x => decide (a < x.t))) ?_ ?_ ?_
  · exact ⟨[⟨a, u⟩], .full, Ours.full 3 st, by simp [↓vD, vU, ↓vMd, vMu, vZ, seval, k_app, k_slc1], by simp [↓vD, vU, ↓vMd, vMu, vZ, seval, k_app, k_slc1, Seg.a], by simp, ⟨by simp⟩⟩
  · rintro k fr s' hk hwk hfr hd ⟨acc, tk, ho, h18, h5, hal, HA⟩
    have hts := ho.has
    have hun := ho.under
    obtain ⟨x, hx⟩ : ∃ x, f[k] = x := ⟨_, rfl⟩
    have htk : f.take (k + 1) = f.take k ++ [x] := by rw [List.take_add_one, List.getElem?_eq_getElem hk, hx]; rfl
    have hac : ∀ z ∈ acc.map Seg.a, z.cells.length = 3 := fun z hz => by obtain ⟨y, _, rfl⟩ := List.mem_map.1 hz; rfl
    by_cases hc : a < x.t
    · have HN : Hid (acc ++ [x] = ⟨a, u⟩ :: (f.take (k + 1)).filter fun x => decide (a < x.t)) := ⟨by rw [HA.out, htk, List.filter_append]; simp [hc]⟩
      clear HA htk
      (repeat' (first | (simp (maxDischargeDepth := 16) only [*, Seg.a, vX, ↓vD, vU, ↓vMd, vMu, vZ, seval]) | (simp (disch := first | assumption | omega | rfl | exact fun _ => rfl) only [Seg.a, vP]) | ((with_reducible first | apply gsnd | apply csnd | apply gsd | apply csd | apply gsn | apply csn | apply gs | apply cs_) <;> intro _) | (with_reducible refine objQ_i (fun _ _ => ?_); repeat with_reducible refine imp_i (fun _ => ?_)) | ((try with_reducible refine appK_a ?_); first | (with_reducible refine appD_F (by refine ⟨?_, ?_, ?_, ?_⟩ <;> (first | assumption | omega | exact St.has_add (by assumption) | (simp only [ins_has]; exact St.has_add (by assumption)) | (simp only [ins_has, fresh_ins, kill_ins, add_ins] at *; exact St.has_add (by assumption)) | (simp only [*, ins_has, has_full, St.has_add]; done) | (simp [-List.map_take, -List.map_drop, or_imp, forall_and, Seg.a, Vec.a, Leg.a, num, okEl, cells_agg, cells_int, cells_sl, cells_bool, AV.isCell]; done) | (simp; omega))) (fun _ _ => ?_)) | (with_reducible refine appD_V (by refine ⟨?_, ?_, ?_, ?_, ?_⟩ <;> (first | assumption | omega | exact St.has_add (by assumption) | (simp only [ins_has]; exact St.has_add (by assumption)) | (simp only [ins_has, fresh_ins, kill_ins, add_ins] at *; exact St.has_add (by assumption)) | (simp only [*, ins_has, has_full, St.has_add]; done) | (simp [-List.map_take, -List.map_drop, or_imp, forall_and, Seg.a, Vec.a, Leg.a, num, okEl, cells_agg, cells_int, cells_sl, cells_bool, AV.isCell]; done) | (simp; omega))) (fun _ _ => ?_))) | (with_reducible refine freshQ_i (fun _ _ => ?_))))
      rename_i b8 hb8 t1 hf1
      have ho3 := ho.next (t' := t1) (by simpa only [kill_ins, fresh_ins] using hf1)
      exact ⟨_, by (refine ⟨fun i o e => ?_, fun _ h => h⟩; revert e; simp only [St.ins, St.del, add_objs, kill_objs]; (repeat' split); all_goals (first | exact id | (intros; contradiction) | (intros; subst_vars; contradiction) | (intros; simp_all; done) | (intros; subst_vars; simp_all; done))), acc ++ [x], t1, ho3, by simp [Seg.a], by simp; omega, HN⟩
    · have HN : Hid (acc = ⟨a, u⟩ :: (f.take (k + 1)).filter fun x => decide (a < x.t)) := ⟨by rw [htk, List.filter_append]; simp [hc, HA.out]⟩
      clear HA htk
      (repeat' (first | (simp (maxDischargeDepth := 16) only [*, Seg.a, vX, ↓vD, vU, ↓vMd, vMu, vZ, seval]) | (simp (disch := first | assumption | omega | rfl | exact fun _ => rfl) only [Seg.a, vP]) | ((with_reducible first | apply gsnd | apply csnd | apply gsd | apply csd | apply gsn | apply csn | apply gs | apply cs_) <;> intro _) | (with_reducible refine objQ_i (fun _ _ => ?_); repeat with_reducible refine imp_i (fun _ => ?_)) | ((try with_reducible refine appK_a ?_); first | (with_reducible refine appD_F (by refine ⟨?_, ?_, ?_, ?_⟩ <;> (first | assumption | omega | exact St.has_add (by assumption) | (simp only [ins_has]; exact St.has_add (by assumption)) | (simp only [ins_has, fresh_ins, kill_ins, add_ins] at *; exact St.has_add (by assumption)) | (simp only [*, ins_has, has_full, St.has_add]; done) | (simp [-List.map_take, -List.map_drop, or_imp, forall_and, Seg.a, Vec.a, Leg.a, num, okEl, cells_agg, cells_int, cells_sl, cells_bool, AV.isCell]; done) | (simp; omega))) (fun _ _ => ?_)) | (with_reducible refine appD_V (by refine ⟨?_, ?_, ?_, ?_, ?_⟩ <;> (first | assumption | omega | exact St.has_add (by assumption) | (simp only [ins_has]; exact St.has_add (by assumption)) | (simp only [ins_has, fresh_ins, kill_ins, add_ins] at *; exact St.has_add (by assumption)) | (simp only [*, ins_has, has_full, St.has_add]; done) | (simp [-List.map_take, -List.map_drop, or_imp, forall_and, Seg.a, Vec.a, Leg.a, num, okEl, cells_agg, cells_int, cells_sl, cells_bool, AV.isCell]; done) | (simp; omega))) (fun _ _ => ?_))) | (with_reducible refine freshQ_i (fun _ _ => ?_))))
      rename_i b8 hb8
      exact ⟨s', by (refine ⟨fun i o e => ?_, fun _ h => h⟩; revert e; simp only [St.ins, St.del, add_objs, kill_objs]; (repeat' split); all_goals (first | exact id | (intros; contradiction) | (intros; subst_vars; contradiction) | (intros; simp_all; done) | (intros; subst_vars; simp_all; done))), acc, tk, ho, rfl, by omega, HN⟩
  · rintro fr s' hfr hd ⟨acc, tk, ho, h18, h5, hal, HA⟩
    rw [List.take_length] at HA
    have hO := Of_v acc (by omega) tk
    have HE : Hid (behindF f a = (ofF acc).1) := ⟨by rw [HB.out, HA.out]⟩
    obtain ⟨w, hw⟩ : ∃ w, ofF acc = w := ⟨_, rfl⟩
    rw [hw] at hO HE
    simp only [num] at hO
    have hun := ho.under
    clear hw HA HB
    (repeat' (first | (simp (maxDischargeDepth := 16) only [*, vX, ↓vD, vU, ↓vMd, vMu, vZ, seval]) | (simp (disch := first | assumption | omega | rfl | exact fun _ => rfl) only [vP]) | ((with_reducible first | apply gsnd | apply csnd | apply gsd | apply csd | apply gsn | apply csn | apply gs | apply cs_) <;> intro _) | (with_reducible refine objQ_i (fun _ _ => ?_); repeat with_reducible refine imp_i (fun _ => ?_)) | ((try with_reducible refine appK_a ?_); first | (with_reducible refine appD_F (by refine ⟨?_, ?_, ?_, ?_⟩ <;> (first | assumption | omega | exact St.has_add (by assumption) | (simp only [ins_has]; exact St.has_add (by assumption)) | (simp only [ins_has, fresh_ins, kill_ins, add_ins] at *; exact St.has_add (by assumption)) | (simp only [*, ins_has, has_full, St.has_add]; done) | (simp [-List.map_take, -List.map_drop, or_imp, forall_and, Seg.a, Vec.a, Leg.a, num, okEl, cells_agg, cells_int, cells_sl, cells_bool, AV.isCell]; done) | (simp; omega))) (fun _ _ => ?_)) | (with_reducible refine appD_V (by refine ⟨?_, ?_, ?_, ?_, ?_⟩ <;> (first | assumption | omega | exact St.has_add (by assumption) | (simp only [ins_has]; exact St.has_add (by assumption)) | (simp only [ins_has, fresh_ins, kill_ins, add_ins] at *; exact St.has_add (by assumption)) | (simp only [*, ins_has, has_full, St.has_add]; done) | (simp [-List.map_take, -List.map_drop, or_imp, forall_and, Seg.a, Vec.a, Leg.a, num, okEl, cells_agg, cells_int, cells_sl, cells_bool, AV.isCell]; done) | (simp; omega))) (fun _ _ => ?_))) | (with_reducible refine freshQ_i (fun _ _ => ?_)) | (with_reducible first | refine callH_use (hO) ?_ | refine pureQ_use (hO) ?_)))
    refine ⟨st, hun, .no, ?_, rfl⟩
    rw [HE.out]
theorem check_v (c l o : List Seg) (hc : c.length ≤ 1000000) (hl : l.length ≤ 1000000) (ho : o.length ≤ 1000000) (t1 t2 t3 : Tok) (a : Int) (ps : List Pol) (hp : ps.length ≤ 1000000000) (t : Tok) :
    VPure Tryd.prog 21 [givA c l o t1 t2 t3 a, .sl (ps.map Pol.a) t] (.int .i64 (checkP c l o ps a)) := fun Z st => by
  have hF := form_v c l o hc hl ho t1 t2 t3 .full
  have hfar := farfit_v a
  obtain ⟨b1, hb1⟩ : ∃ b, (mayF c && mayF l && mayF o) = b := ⟨_, rfl⟩
  obtain ⟨b2, hb2⟩ : ∃ b, farF a = b := ⟨_, rfl⟩
  have HC : Hid (checkP c l o ps a = if b1 then (if ps.any (fun p => decide (2 < p.k)) then 2 else if (b2 || ps.any oddP) then 10 else 0) else 5) := ⟨by unfold checkP; rw [hb1, hb2]⟩
  rw [hb1] at hF
  rw [hb2] at hfar
  clear hb1 hb2
  obtain ⟨E, hE⟩ : ∃ E, checkP c l o ps a = E := ⟨_, rfl⟩
  rw [hE] at HC ⊢
  clear hE
  refine VCalls.of v_fit_check_ok (Nat.le_of_ble_eq_true rfl) ?_
  simp only [v_fit_check, givA, ↓vD, vU, ↓vMd, vMu, vZ, seval, k_app, k_slc1]
  cases b1
  · obtain rfl : E = 5 := HC.out
    clear HC
    (repeat' (first | (simp (maxDischargeDepth := 16) only [*, vX, ↓vD, vU, ↓vMd, vMu, vZ, seval]) | (simp (disch := first | assumption | omega | rfl | exact fun _ => rfl) only [vP]) | ((with_reducible first | apply gsnd | apply csnd | apply gsd | apply csd | apply gsn | apply csn | apply gs | apply cs_) <;> intro _) | (with_reducible refine objQ_i (fun _ _ => ?_); repeat with_reducible refine imp_i (fun _ => ?_)) | (with_reducible first | refine callH_use (hF) ?_ | refine pureQ_use (hF) ?_) | (with_reducible first | refine callH_use (hfar) ?_ | refine pureQ_use (hfar) ?_)))
    all_goals first | done | exact ⟨st, by (refine ⟨fun i o e => ?_, fun _ h => h⟩; revert e; simp only [St.ins, St.del, add_objs, kill_objs]; (repeat' split); all_goals (first | exact id | (intros; contradiction) | (intros; subst_vars; contradiction) | (intros; simp_all; done) | (intros; subst_vars; simp_all; done))), rfl, rfl⟩ | trace_state
  have HC2 : Hid (E = if ps.any (fun p => decide (2 < p.k)) then 2 else if (b2 || ps.any oddP) then 10 else 0) := ⟨by rw [HC.out, if_pos rfl]⟩
  clear HC
  (repeat' (first | (simp (maxDischargeDepth := 16) only [*, vX, ↓vD, vU, ↓vMd, vMu, vZ, seval]) | (simp (disch := first | assumption | omega | rfl | exact fun _ => rfl) only [vP]) | ((with_reducible first | apply gsnd | apply csnd | apply gsd | apply csd | apply gsn | apply csn | apply gs | apply cs_) <;> intro _) | (with_reducible refine objQ_i (fun _ _ => ?_); repeat with_reducible refine imp_i (fun _ => ?_)) | (with_reducible first | refine callH_use (hF) ?_ | refine pureQ_use (hF) ?_) | (with_reducible first | refine callH_use (hfar) ?_ | refine pureQ_use (hfar) ?_)))
  rename_i b3 hb3
  refine loopf_of (len := ps.length) (by simp only [asgL, dsts, List.cons_append, List.nil_append, List.append_nil]; rfl) (by simp only [noR, Bool.and_true, Bool.and_false]; rfl) (by omega) (fun k fr s => s = st.ins b3 (.cells [.sl (c.map Seg.a) t1, .sl (l.map Seg.a) t2, .sl (o.map Seg.a) t3, .int .i64 a]) ∧ fr.t 22 = .int .i64 k ∧ (∃ b, fr.t 5 = .bool b ∧ Hid (b = (b2 || (ps.take k).any oddP))) ∧ Hid ((ps.take k).any (fun p => decide (2 < p.k)) = false)) ?_ ?_ ?_
  · exact ⟨rfl, by simp [↓vD, vU, ↓vMd, vMu, vZ, seval, k_app, k_slc1], ⟨b2, by simp [↓vD, vU, ↓vMd, vMu, vZ, seval, k_app, k_slc1], ⟨by simp⟩⟩, ⟨by simp⟩⟩
  · rintro k fr s hk hwk hfr hd ⟨rfl, h22, ⟨b, h5, HB⟩, HK⟩
    obtain ⟨p, hpk⟩ : ∃ p, ps[k] = p := ⟨_, rfl⟩
    have htk : ps.take (k + 1) = ps.take k ++ [p] := by rw [List.take_add_one, List.getElem?_eq_getElem hk, hpk]; rfl
    have hM := May_v p.cap.m p.cap.c
    obtain ⟨q, hq⟩ : ∃ q, mayV ⟨p.cap.m, p.cap.c⟩ = q := ⟨_, rfl⟩
    have hod : oddP p = (decide (p.k = 1) && !q) := by unfold oddP; rw [← hq]
    rw [hq] at hM
    by_cases h2 : 2 < p.k
    · have he : ps.any (fun p => decide (2 < p.k)) = true := List.any_eq_true.2 ⟨p, hpk ▸ List.getElem_mem hk, decide_eq_true h2⟩
      obtain rfl : E = 2 := by rw [HC2.out, if_pos he]
      clear he HC2 htk hod HB HK hq
      (repeat' (first | (simp (maxDischargeDepth := 16) only [*, Pol.a, vX, ↓vD, vU, ↓vMd, vMu, vZ, seval]) | (simp (disch := first | assumption | omega | rfl | exact fun _ => rfl) only [Pol.a, vP]) | ((with_reducible first | apply gsnd | apply csnd | apply gsd | apply csd | apply gsn | apply csn | apply gs | apply cs_) <;> intro _) | (with_reducible refine objQ_i (fun _ _ => ?_); repeat with_reducible refine imp_i (fun _ => ?_)) | (with_reducible first | refine callH_use (hM) ?_ | refine pureQ_use (hM) ?_)))
      all_goals first | done | exact ⟨st, by (refine ⟨fun i o e => ?_, fun _ h => h⟩; revert e; simp only [St.ins, St.del, add_objs, kill_objs]; (repeat' split); all_goals (first | exact id | (intros; contradiction) | (intros; subst_vars; contradiction) | (intros; simp_all; done) | (intros; subst_vars; simp_all; done))), rfl, rfl⟩ | trace_state
    · have HK2 : Hid ((ps.take (k + 1)).any (fun p => decide (2 < p.k)) = false) := ⟨by rw [htk, List.any_append, HK.out]; simp [h2]⟩
      have HB2 : Hid ((b || (decide (p.k = 1) && !q)) = (b2 || (ps.take (k + 1)).any oddP)) := ⟨by rw [htk, List.any_append, HB.out, ← hod]; simp [Bool.or_assoc]⟩
      clear HK HB htk hod hq
      by_cases h1 : p.k = 1
      · rw [decide_eq_true h1, Bool.true_and] at HB2
        cases b <;> cases q
        all_goals
          (repeat' (first | (simp (maxDischargeDepth := 16) only [*, Pol.a, vX, ↓vD, vU, ↓vMd, vMu, vZ, seval]) | (simp (disch := first | assumption | omega | rfl | exact fun _ => rfl) only [Pol.a, vP]) | ((with_reducible first | apply gsnd | apply csnd | apply gsd | apply csd | apply gsn | apply csn | apply gs | apply cs_) <;> intro _) | (with_reducible refine objQ_i (fun _ _ => ?_); repeat with_reducible refine imp_i (fun _ => ?_)) | (with_reducible first | refine callH_use (hM) ?_ | refine pureQ_use (hM) ?_)))
        all_goals first | done | exact ⟨_, rfl, HB2⟩ | trace_state
      · rw [decide_eq_false h1, Bool.false_and, Bool.or_false] at HB2
        cases b
        all_goals
          (repeat' (first | (simp (maxDischargeDepth := 16) only [*, Pol.a, vX, ↓vD, vU, ↓vMd, vMu, vZ, seval]) | (simp (disch := first | assumption | omega | rfl | exact fun _ => rfl) only [Pol.a, vP]) | ((with_reducible first | apply gsnd | apply csnd | apply gsd | apply csd | apply gsn | apply csn | apply gs | apply cs_) <;> intro _) | (with_reducible refine objQ_i (fun _ _ => ?_); repeat with_reducible refine imp_i (fun _ => ?_)) | (with_reducible first | refine callH_use (hM) ?_ | refine pureQ_use (hM) ?_)))
        all_goals first | done | exact ⟨_, rfl, HB2⟩ | trace_state
  · rintro fr s hfr hd ⟨rfl, h22, ⟨b, h5, HB⟩, HK⟩
    rw [List.take_length] at HB HK
    have HE : Hid (E = if b then 10 else 0) := ⟨by rw [HC2.out, HK.out, HB.out]; rfl⟩
    clear HB HK HC2
    cases b
    · obtain rfl : E = 0 := HE.out
      (repeat' (first | (simp (maxDischargeDepth := 16) only [*, vX, ↓vD, vU, ↓vMd, vMu, vZ, seval]) | (simp (disch := first | assumption | omega | rfl | exact fun _ => rfl) only [vP]) | ((with_reducible first | apply gsnd | apply csnd | apply gsd | apply csd | apply gsn | apply csn | apply gs | apply cs_) <;> intro _) | (with_reducible refine objQ_i (fun _ _ => ?_); repeat with_reducible refine imp_i (fun _ => ?_))))
      all_goals first | done | exact ⟨st, by (refine ⟨fun i o e => ?_, fun _ h => h⟩; revert e; simp only [St.ins, St.del, add_objs, kill_objs]; (repeat' split); all_goals (first | exact id | (intros; contradiction) | (intros; subst_vars; contradiction) | (intros; simp_all; done) | (intros; subst_vars; simp_all; done))), rfl, rfl⟩ | trace_state
    · obtain rfl : E = 10 := HE.out
      (repeat' (first | (simp (maxDischargeDepth := 16) only [*, vX, ↓vD, vU, ↓vMd, vMu, vZ, seval]) | (simp (disch := first | assumption | omega | rfl | exact fun _ => rfl) only [vP]) | ((with_reducible first | apply gsnd | apply csnd | apply gsd | apply csd | apply gsn | apply csn | apply gs | apply cs_) <;> intro _) | (with_reducible refine objQ_i (fun _ _ => ?_); repeat with_reducible refine imp_i (fun _ => ?_))))
      all_goals first | done | exact ⟨st, by (refine ⟨fun i o e => ?_, fun _ h => h⟩; revert e; simp only [St.ins, St.del, add_objs, kill_objs]; (repeat' split); all_goals (first | exact id | (intros; contradiction) | (intros; subst_vars; contradiction) | (intros; simp_all; done) | (intros; subst_vars; simp_all; done))), rfl, rfl⟩ | trace_state
end Go.Proofs.YtglekfgoadehbaaDoor.V
end
section
set_option linter.unusedSimpArgs false
set_option linter.unusedVariables false
/- fit's bounds, all, Free. -/
namespace Go.Proofs.YtglekfgoadehbaaDoor.V
open Go Go.Proofs
set_option maxRecDepth 100000
set_option maxHeartbeats 4000000
theorem bounds_v : VPure Tryd.prog 45 [] (.agg [.clo 69 [] [], .clo 70 [] [], .clo 71 [] []]) := by
  refine VPure.of v_fit_bounds_ok (Nat.le_of_ble_eq_true rfl) (fun Z st => ?_)
  simp only [v_fit_bounds, ↓vD, vU, ↓vMd, vMu, vZ, seval, k_app, k_slc1]
  (repeat' (first | (simp (maxDischargeDepth := 16) only [*, vX, ↓vD, vU, ↓vMd, vMu, vZ, seval]) | (simp (disch := first | assumption | omega | rfl | exact fun _ => rfl) only [vP]) | ((with_reducible first | apply gsnd | apply csnd | apply gsd | apply csd | apply gsn | apply csn | apply gs | apply cs_) <;> intro _) | (with_reducible refine objQ_i (fun _ _ => ?_); repeat with_reducible refine imp_i (fun _ => ?_))))
theorem bound_v (c l o : List Seg) (hc : c.length ≤ 1000000) (hl : l.length ≤ 1000000) (ho : o.length ≤ 1000000) (t1 t2 t3 : Tok) (a : Int) (p : Pol) (hk : p.k = 0 ∨ p.k = 1 ∨ p.k = 2) :
    ∃ g x, vixa 3 1 true (.agg [.clo 69 [] [], .clo 70 [] [], .clo 71 [] []]) (.int .u8 p.k) = some x ∧ vfld 0 1 false x = some (.clo g [] []) ∧ VPure Tryd.prog g [givA c l o t1 t2 t3 a, p.a] (.tup [.sl ((boundF c l o a p).1.map Seg.a) .no, .int .i64 (boundF c l o a p).2]) := by
  unfold boundF
  rcases hk with h | h | h
  · refine ⟨69, _, by rw [h]; rfl, rfl, ?_⟩
    rw [if_pos h, ← sub_do]
    exact commit_v c l o hc hl t1 t2 t3 a p
  · refine ⟨70, _, by rw [h]; rfl, rfl, ?_⟩
    rw [if_neg (by omega), if_pos h, ← sub_do]
    exact user_v c l o ho t1 t2 t3 a p
  · refine ⟨71, _, by rw [h]; rfl, rfl, ?_⟩
    rw [if_neg (by omega), if_neg (by omega)]
    exact none_v c l o t1 t2 t3 a p
theorem bound_len (c l o : List Seg) (a : Int) (p : Pol) : (boundF c l o a p).1.length ≤ c.length + l.length + o.length + 1 := by
  unfold boundF
  split
  · rw [← sub_do]; have := madeF_len subV c l; omega
  · split
    · rw [← sub_do]; have := madeF_len subV (alwaysF p.cap a) o; have := always_len p.cap a; omega
    · have := always_len fullV a; simp only; omega
theorem all_v (c l o : List Seg) (hn : c.length + l.length + o.length ≤ 2000) (t1 t2 t3 : Tok) (a : Int) (ps : List Pol) (hp : ps.length ≤ 100) (hk : ∀ p ∈ ps, p.k = 0 ∨ p.k = 1 ∨ p.k = 2) (t : Tok) :
    VPure Tryd.prog 22 [givA c l o t1 t2 t3 a, .sl (ps.map Pol.a) t] (.tup [.sl ((allF c l o a ps (alwaysF fullV a)).1.map Seg.a) .no, .int .i64 (allF c l o a ps (alwaysF fullV a)).2]) := by
  refine VPure.tokT (fun Z st => ?_)
  have hA := always_v fullV a
  have hAl := always_len fullV a
  obtain ⟨f0, hf0⟩ : ∃ f, alwaysF fullV a = f := ⟨_, rfl⟩
  rw [hf0] at hA hAl ⊢
  clear hf0
  simp only [fullV] at hA
  have hB := bounds_v
  obtain ⟨E, hE⟩ : ∃ E, allF c l o a ps f0 = E := ⟨_, rfl⟩
  have HE : Hid (allF c l o a ps f0 = E) := ⟨hE⟩
  rw [hE]
  clear hE
  refine VCalls.of v_fit_all_ok (Nat.le_of_ble_eq_true rfl) ?_
  simp only [v_fit_all, givA, ↓vD, vU, ↓vMd, vMu, vZ, seval, k_app, k_slc1]
  (repeat' (first | (simp (maxDischargeDepth := 16) only [*, vX, ↓vD, vU, ↓vMd, vMu, vZ, seval]) | (simp (disch := first | assumption | omega | rfl | exact fun _ => rfl) only [vP]) | ((with_reducible first | apply gsnd | apply csnd | apply gsd | apply csd | apply gsn | apply csn | apply gs | apply cs_) <;> intro _) | (with_reducible refine objQ_i (fun _ _ => ?_); repeat with_reducible refine imp_i (fun _ => ?_)) | (with_reducible first | refine callH_use (hA) ?_ | refine pureQ_use (hA) ?_)))
  rename_i b3 hb3
  refine loopf_of (len := ps.length) (by simp only [asgL, dsts, List.cons_append, List.nil_append, List.append_nil]; rfl) (by simp only [noR, Bool.and_true, Bool.and_false]; rfl) (by omega) (fun k fr s => s = st.ins b3 (.cells [.sl (c.map Seg.a) t1, .sl (l.map Seg.a) t2, .sl (o.map Seg.a) t3, .int .i64 a]) ∧ fr.t 17 = .int .i64 k ∧ ∃ f', fr.t 6 = .sl (f'.map Seg.a) .no ∧ f'.length ≤ 1 + k * 2001 ∧ Hid (allF c l o a (ps.drop k) f' = E)) ?_ ?_ ?_
  · exact ⟨rfl, by simp [↓vD, vU, ↓vMd, vMu, vZ, seval, k_app, k_slc1], f0, by simp [↓vD, vU, ↓vMd, vMu, vZ, seval, k_app, k_slc1], by omega, ⟨HE.out⟩⟩
  · rintro k fr s hk' hwk hfr hd ⟨rfl, h17, f', h6, hfl, HA⟩
    obtain ⟨p, hpk⟩ : ∃ p, ps[k] = p := ⟨_, rfl⟩
    have hd1 : ps.drop k = p :: ps.drop (k + 1) := by rw [List.drop_eq_getElem_cons hk', hpk]
    obtain ⟨g, x, i1, i2, hG⟩ := bound_v c l o (by omega) (by omega) (by omega) t1 t2 t3 a p (hk p (hpk ▸ List.getElem_mem hk'))
    have hbl := bound_len c l o a p
    have HS : Hid (E = if (boundF c l o a p).2 = 0 then (if (doR 2 f' (boundF c l o a p).1).2 = 0 then allF c l o a (ps.drop (k + 1)) (doR 2 f' (boundF c l o a p).1).1 else ([], (doR 2 f' (boundF c l o a p).1).2)) else ([], (boundF c l o a p).2)) := ⟨by rw [← HA.out, hd1]; rfl⟩
    clear HA hd1
    obtain ⟨w, hw⟩ : ∃ w, boundF c l o a p = w := ⟨_, rfl⟩
    rw [hw] at hG hbl HS
    clear hw
    obtain ⟨h, e⟩ := w
    simp only at hG hbl HS
    have hkb : k * 2001 ≤ 100 * 2001 := Nat.mul_le_mul_right _ (by omega)
    have hM := Min_c f' h (by omega) (by omega) .no .no
    rw [min_do] at hM
    have hml : (doR 2 f' h).1.length ≤ f'.length + h.length := by rw [← min_do]; exact madeF_len _ _ _
    obtain ⟨v, hv⟩ : ∃ v, doR 2 f' h = v := ⟨_, rfl⟩
    rw [hv] at hM hml HS
    clear hv
    obtain ⟨f2, e2⟩ := v
    simp only at hM hml HS
    simp only [num] at hM
    simp only [givA, Pol.a] at hG
    by_cases h0 : e = 0
    · subst h0
      rw [if_pos rfl] at HS
      by_cases h1 : e2 = 0
      · subst h1
        rw [if_pos rfl] at HS
        have HS2 : Hid (allF c l o a (ps.drop (k + 1)) f2 = E) := ⟨HS.out.symm⟩
        clear HS hk
        (repeat' (first | (simp (maxDischargeDepth := 16) only [*, Pol.a, i1, i2, vX, ↓vD, vU, ↓vMd, vMu, vZ, seval]) | (simp (disch := first | assumption | omega | rfl | exact fun _ => rfl) only [Pol.a, i1, i2, vP]) | ((with_reducible first | apply gsnd | apply csnd | apply gsd | apply csd | apply gsn | apply csn | apply gs | apply cs_) <;> intro _) | (with_reducible refine objQ_i (fun _ _ => ?_); repeat with_reducible refine imp_i (fun _ => ?_)) | (with_reducible first | refine callH_use (hB) ?_ | refine pureQ_use (hB) ?_) | (with_reducible first | refine callH_use (hG) ?_ | refine pureQ_use (hG) ?_) | (with_reducible first | refine callH_use (hM) ?_ | refine pureQ_use (hM) ?_)))
        exact ⟨f2, rfl, by omega, HS2⟩
      · rw [if_neg h1] at HS
        obtain rfl : E = ([], e2) := HS.out
        clear HS HE hk
        (repeat' (first | (simp (maxDischargeDepth := 16) only [*, Pol.a, i1, i2, vX, ↓vD, vU, ↓vMd, vMu, vZ, seval]) | (simp (disch := first | assumption | omega | rfl | exact fun _ => rfl) only [Pol.a, i1, i2, vP]) | ((with_reducible first | apply gsnd | apply csnd | apply gsd | apply csd | apply gsn | apply csn | apply gs | apply cs_) <;> intro _) | (with_reducible refine objQ_i (fun _ _ => ?_); repeat with_reducible refine imp_i (fun _ => ?_)) | (with_reducible first | refine callH_use (hB) ?_ | refine pureQ_use (hB) ?_) | (with_reducible first | refine callH_use (hG) ?_ | refine pureQ_use (hG) ?_) | (with_reducible first | refine callH_use (hM) ?_ | refine pureQ_use (hM) ?_)))
        exact ⟨st, by (refine ⟨fun i o e => ?_, fun _ h => h⟩; revert e; simp only [St.ins, St.del, add_objs, kill_objs]; (repeat' split); all_goals (first | exact id | (intros; contradiction) | (intros; subst_vars; contradiction) | (intros; simp_all; done) | (intros; subst_vars; simp_all; done))), _, rfl, rfl⟩
    · rw [if_neg h0] at HS
      obtain rfl : E = ([], e) := HS.out
      clear HS HE hk
      (repeat' (first | (simp (maxDischargeDepth := 16) only [*, Pol.a, i1, i2, vX, ↓vD, vU, ↓vMd, vMu, vZ, seval]) | (simp (disch := first | assumption | omega | rfl | exact fun _ => rfl) only [Pol.a, i1, i2, vP]) | ((with_reducible first | apply gsnd | apply csnd | apply gsd | apply csd | apply gsn | apply csn | apply gs | apply cs_) <;> intro _) | (with_reducible refine objQ_i (fun _ _ => ?_); repeat with_reducible refine imp_i (fun _ => ?_)) | (with_reducible first | refine callH_use (hB) ?_ | refine pureQ_use (hB) ?_) | (with_reducible first | refine callH_use (hG) ?_ | refine pureQ_use (hG) ?_) | (with_reducible first | refine callH_use (hM) ?_ | refine pureQ_use (hM) ?_)))
      exact ⟨st, by (refine ⟨fun i o e => ?_, fun _ h => h⟩; revert e; simp only [St.ins, St.del, add_objs, kill_objs]; (repeat' split); all_goals (first | exact id | (intros; contradiction) | (intros; subst_vars; contradiction) | (intros; simp_all; done) | (intros; subst_vars; simp_all; done))), _, rfl, rfl⟩
  · rintro fr s hfr hd ⟨rfl, h17, f', h6, hfl, HA⟩
    rw [List.drop_length] at HA
    obtain rfl : E = (f', 0) := HA.out.symm
    clear HA HE
    (repeat' (first | (simp (maxDischargeDepth := 16) only [*, vX, ↓vD, vU, ↓vMd, vMu, vZ, seval]) | (simp (disch := first | assumption | omega | rfl | exact fun _ => rfl) only [vP]) | ((with_reducible first | apply gsnd | apply csnd | apply gsd | apply csd | apply gsn | apply csn | apply gs | apply cs_) <;> intro _) | (with_reducible refine objQ_i (fun _ _ => ?_); repeat with_reducible refine imp_i (fun _ => ?_))))
    exact ⟨st, by (refine ⟨fun i o e => ?_, fun _ h => h⟩; revert e; simp only [St.ins, St.del, add_objs, kill_objs]; (repeat' split); all_goals (first | exact id | (intros; contradiction) | (intros; subst_vars; contradiction) | (intros; simp_all; done) | (intros; subst_vars; simp_all; done))), _, rfl, rfl⟩
theorem behind_len (f : List Seg) (a : Int) : (behindF f a).length ≤ f.length + 1 := by
  have := ofF_len (⟨a, atF f a⟩ :: f.filter fun x => decide (a < x.t))
  have h2 := List.length_filter_le (fun x : Seg => decide (a < x.t)) f
  unfold behindF
  simp only [List.length_cons] at this
  omega
theorem check_k {c l o : List Seg} {ps : List Pol} {a : Int} (h : checkP c l o ps a = 0) : ∀ p ∈ ps, p.k ≤ 2 := by
  intro p hp
  unfold checkP at h
  split at h
  · split at h
    · cases h
    · rename_i h2
      by_cases h3 : 2 < p.k
      · exact absurd (List.any_eq_true.2 ⟨p, hp, decide_eq_true h3⟩) h2
      · omega
  · cases h
theorem Free_v (c l o : List Seg) (hn : c.length + l.length + o.length ≤ 1000) (t1 t2 t3 : Tok) (ps : List Pol) (hp : ps.length ≤ 100) (hk : ∀ p ∈ ps, 0 ≤ p.k) (t : Tok) (a : Int) :
    VPure Tryd.prog 8 [.sl (c.map Seg.a) t1, .sl (l.map Seg.a) t2, .sl (o.map Seg.a) t3, .sl (ps.map Pol.a) t, .int .i64 a] (.tup [.sl ((freeF c l o ps a).1.map Seg.a) .no, .int .i64 (freeF c l o ps a).2]) := by
  refine VPure.tokT (fun Z st => ?_)
  have hC := check_v c l o (by omega) (by omega) (by omega) t1 t2 t3 a ps (by omega) t
  simp only [givA] at hC
  obtain ⟨E, hE⟩ : ∃ E, freeF c l o ps a = E := ⟨_, rfl⟩
  by_cases h0 : checkP c l o ps a = 0
  · have h1 := behind_v c (by omega) t1 a
    have h2 := behind_v l (by omega) t2 a
    have h3 := behind_v o (by omega) t3 a
    have k1 := behind_len c a
    have k2 := behind_len l a
    have k3 := behind_len o a
    have hk2 := check_k h0
    have hA := all_v (behindF c a) (behindF l a) (behindF o a) (by omega) .no .no .no a ps hp (fun p hp => by have := hk p hp; have := hk2 p hp; omega) t
    have HE : allF (behindF c a) (behindF l a) (behindF o a) a ps (alwaysF fullV a) = E := by rw [← hE]; unfold freeF; rw [if_neg (by omega)]
    rw [HE] at hA
    rw [hE]
    rw [h0] at hC
    simp only [givA] at hA
    clear hE HE h0 hk hk2 k1 k2 k3
    obtain ⟨x, hx⟩ : ∃ x, behindF c a = x := ⟨_, rfl⟩
    obtain ⟨y, hy⟩ : ∃ x, behindF l a = x := ⟨_, rfl⟩
    obtain ⟨z, hz⟩ : ∃ x, behindF o a = x := ⟨_, rfl⟩
    rw [hx] at h1 hA
    rw [hy] at h2 hA
    rw [hz] at h3 hA
    clear hx hy hz
    refine VCalls.of v_fit_Free_ok (Nat.le_of_ble_eq_true rfl) ?_
    simp only [v_fit_Free, ↓vD, vU, ↓vMd, vMu, vZ, seval, k_app, k_slc1]
    (repeat' (first | (simp (maxDischargeDepth := 16) only [*, vX, ↓vD, vU, ↓vMd, vMu, vZ, seval]) | (simp (disch := first | assumption | omega | rfl | exact fun _ => rfl) only [vP]) | ((with_reducible first | apply gsnd | apply csnd | apply gsd | apply csd | apply gsn | apply csn | apply gs | apply cs_) <;> intro _) | (with_reducible first | refine callH_use (hC) ?_ | refine pureQ_use (hC) ?_) | (with_reducible first | refine callH_use (h1) ?_ | refine pureQ_use (h1) ?_) | (with_reducible first | refine callH_use (h2) ?_ | refine pureQ_use (h2) ?_) | (with_reducible first | refine callH_use (h3) ?_ | refine pureQ_use (h3) ?_) | (with_reducible first | refine callH_use (hA) ?_ | refine pureQ_use (hA) ?_)))
    exact ⟨st, St.le.refl _, _, rfl, rfl⟩
  · have HE : E = ([], checkP c l o ps a) := by rw [← hE]; unfold freeF; rw [if_pos h0]
    rw [hE, HE]
    obtain ⟨e, he⟩ : ∃ e, checkP c l o ps a = e := ⟨_, rfl⟩
    rw [he] at h0 hC ⊢
    clear hE HE he hk
    refine VCalls.of v_fit_Free_ok (Nat.le_of_ble_eq_true rfl) ?_
    simp only [v_fit_Free, ↓vD, vU, ↓vMd, vMu, vZ, seval, k_app, k_slc1]
    (repeat' (first | (simp (maxDischargeDepth := 16) only [*, vX, ↓vD, vU, ↓vMd, vMu, vZ, seval]) | (simp (disch := first | assumption | omega | rfl | exact fun _ => rfl) only [vP]) | ((with_reducible first | apply gsnd | apply csnd | apply gsd | apply csd | apply gsn | apply csn | apply gs | apply cs_) <;> intro _) | (with_reducible first | refine callH_use (hC) ?_ | refine pureQ_use (hC) ?_)))
    exact ⟨st, St.le.refl _, _, rfl, rfl⟩
end Go.Proofs.YtglekfgoadehbaaDoor.V
end
section
set_option linter.unusedSimpArgs false
set_option linter.unusedVariables false
/- The compiled functions of the package liverylaw15 (printed by Print.lean of this work). -/
namespace Go.Proofs.YtglekfgoadehbaaDoor.V
open Go Go.Proofs
def v_liverylaw15_FitUsed : VFn := ⟨.seq (.reg [⟨some 2, .box (.t 0), none, [], []⟩,
 ⟨some 3, .box (.t 1), none, [], []⟩,
 ⟨some 4, .mov (.c (.bool false)), none, [], []⟩])
(.seq (.seq (.reg [⟨some 19, .load 5 true (.t 2), none, [], []⟩,
 ⟨some 20, .call 6 [(.t 19)], none, [0], []⟩])
(.cond (.t 20)
 (.seq (.reg [⟨some 21, .call 7 [], none, [], []⟩,
 ⟨some 4, .mov (.t 21), none, [0, 0, 0], []⟩])
 (.ret))
 (.skip)))
(.seq (.reg [⟨some 23, .fad 0 (.t 2), none, [], []⟩,
 ⟨some 24, .load 1 false (.t 23), none, [0], []⟩,
 ⟨some 25, .fad 1 (.t 2), none, [], []⟩,
 ⟨some 26, .load 1 false (.t 25), none, [2], []⟩,
 ⟨some 27, .fad 2 (.t 2), none, [], []⟩,
 ⟨some 28, .load 1 false (.t 27), none, [4], []⟩,
 ⟨some 29, .fad 3 (.t 2), none, [], []⟩,
 ⟨some 30, .load 1 false (.t 29), none, [6], []⟩,
 ⟨some 31, .fad 4 (.t 2), none, [], []⟩,
 ⟨some 32, .load 1 false (.t 31), none, [8], []⟩,
 ⟨some 33, .call 8 [(.t 24), (.t 26), (.t 28), (.t 30), (.t 32)], none, [1, 3, 5, 7, 9], []⟩,
 ⟨some 22, .mov (.t 33), none, [10], []⟩,
 ⟨some 34, .ext (.t 22) 0, none, [11], []⟩,
 ⟨some 35, .ext (.t 22) 1, none, [11], []⟩,
 ⟨some 5, .mov (.t 34), none, [12, 10, 0, 1, 2, 3, 4, 5, 6, 7, 8, 9, 10, 11, 12], []⟩,
 ⟨some 6, .mov (.t 35), none, [13, 14, 0, 1, 2, 3, 4, 5, 6, 7, 8, 9, 10, 11, 12, 13, 14], []⟩])
(.seq (.reg [⟨some 37, .mov (.t 5), none, [], []⟩,
 ⟨some 38, .fad 0 (.t 3), none, [], []⟩,
 ⟨some 39, .load 1 false (.t 38), none, [1], []⟩,
 ⟨some 40, .fad 1 (.t 3), none, [], []⟩,
 ⟨some 41, .load 1 false (.t 40), none, [3], []⟩,
 ⟨some 42, .fad 2 (.t 3), none, [], []⟩,
 ⟨some 43, .load 2 true (.t 42), none, [5], []⟩,
 ⟨some 44, .call 9 [(.t 37), (.t 39), (.t 41), (.t 43)], none, [0, 2, 4, 6], []⟩,
 ⟨some 36, .mov (.t 44), none, [7], []⟩,
 ⟨some 45, .ext (.t 36) 0, none, [8], []⟩,
 ⟨some 46, .ext (.t 36) 1, none, [8], []⟩,
 ⟨some 7, .mov (.t 45), none, [9, 7, 0, 1, 2, 3, 4, 5, 6, 7, 8, 9], []⟩,
 ⟨some 8, .mov (.t 46), none, [10, 11, 0, 1, 2, 3, 4, 5, 6, 7, 8, 9, 10, 11], []⟩])
(.seq (.seq (.reg [⟨some 47, .mov (.t 6), none, [], []⟩,
 ⟨some 48, .bin .neq (.t 47) (.c (.int .i64 0)), none, [0], []⟩,
 ⟨some 49, .mov (.t 48), none, [1], []⟩,
 ⟨some 50, .mov (.t 8), some (49, false), [2], []⟩,
 ⟨some 51, .bin .neq (.t 50) (.c (.int .i64 0)), some (49, false), [3, 2], []⟩,
 ⟨some 52, .pick (.t 49) (.c (.bool true)) (.t 51), none, [2, 4], []⟩,
 ⟨some 53, .mov (.t 52), none, [5, 2], []⟩,
 ⟨some 54, .fad 0 (.t 3), some (53, false), [6], []⟩,
 ⟨some 55, .load 1 false (.t 54), some (53, false), [7, 6], []⟩,
 ⟨some 56, .fad 4 (.t 2), some (53, false), [6], []⟩,
 ⟨some 57, .load 1 false (.t 56), some (53, false), [9, 6], []⟩,
 ⟨some 58, .bin .lss (.t 55) (.t 57), some (53, false), [8, 10, 6], []⟩,
 ⟨some 59, .pick (.t 53) (.c (.bool true)) (.t 58), none, [6, 11], []⟩])
(.cond (.t 59)
 (.seq (.reg [⟨some 60, .call 7 [], none, [], []⟩,
 ⟨some 4, .mov (.t 60), none, [0, 0, 0], []⟩])
 (.ret))
 (.skip)))
(.seq (.reg [⟨some 62, .fad 1 (.t 2), none, [], []⟩,
 ⟨some 63, .load 1 false (.t 62), none, [0], []⟩,
 ⟨some 64, .fad 0 (.t 3), none, [], []⟩,
 ⟨some 65, .load 1 false (.t 64), none, [2], []⟩,
 ⟨some 66, .fad 0 (.t 3), none, [], []⟩,
 ⟨some 67, .load 1 false (.t 66), none, [4], []⟩,
 ⟨some 68, .fad 1 (.t 3), none, [], []⟩,
 ⟨some 69, .load 1 false (.t 68), none, [6], []⟩,
 ⟨some 70, .bin .add (.t 67) (.t 69), none, [5, 7], []⟩,
 ⟨some 71, .fad 2 (.t 3), none, [], []⟩,
 ⟨some 72, .load 2 true (.t 71), none, [9], []⟩,
 ⟨some 73, .call 10 [(.t 63), (.t 65), (.t 70), (.t 72)], none, [1, 3, 8, 10], []⟩,
 ⟨some 61, .mov (.t 73), none, [11], []⟩,
 ⟨some 74, .ext (.t 61) 0, none, [12], []⟩,
 ⟨some 75, .ext (.t 61) 1, none, [12], []⟩,
 ⟨some 9, .mov (.t 74), none, [13, 11, 0, 1, 2, 3, 4, 5, 6, 7, 8, 9, 10, 11, 12, 13], []⟩,
 ⟨some 10, .mov (.t 75), none, [14, 15, 0, 1, 2, 3, 4, 5, 6, 7, 8, 9, 10, 11, 12, 13, 14, 15], []⟩])
(.seq (.reg [⟨some 77, .fad 2 (.t 2), none, [], []⟩,
 ⟨some 78, .load 1 false (.t 77), none, [0], []⟩,
 ⟨some 79, .fad 0 (.t 3), none, [], []⟩,
 ⟨some 80, .load 1 false (.t 79), none, [2], []⟩,
 ⟨some 81, .fad 0 (.t 3), none, [], []⟩,
 ⟨some 82, .load 1 false (.t 81), none, [4], []⟩,
 ⟨some 83, .fad 1 (.t 3), none, [], []⟩,
 ⟨some 84, .load 1 false (.t 83), none, [6], []⟩,
 ⟨some 85, .bin .add (.t 82) (.t 84), none, [5, 7], []⟩,
 ⟨some 86, .fad 2 (.t 3), none, [], []⟩,
 ⟨some 87, .load 2 true (.t 86), none, [9], []⟩,
 ⟨some 88, .call 10 [(.t 78), (.t 80), (.t 85), (.t 87)], none, [1, 3, 8, 10], []⟩,
 ⟨some 76, .mov (.t 88), none, [11], []⟩,
 ⟨some 89, .ext (.t 76) 0, none, [12], []⟩,
 ⟨some 90, .ext (.t 76) 1, none, [12], []⟩,
 ⟨some 11, .mov (.t 89), none, [13, 11, 0, 1, 2, 3, 4, 5, 6, 7, 8, 9, 10, 11, 12, 13], []⟩,
 ⟨some 12, .mov (.t 90), none, [14, 15, 0, 1, 2, 3, 4, 5, 6, 7, 8, 9, 10, 11, 12, 13, 14, 15], []⟩])
(.seq (.seq (.reg [⟨some 91, .mov (.t 10), none, [], []⟩,
 ⟨some 92, .bin .neq (.t 91) (.c (.int .i64 0)), none, [0], []⟩,
 ⟨some 93, .mov (.t 92), none, [1], []⟩,
 ⟨some 94, .mov (.t 12), some (93, false), [2], []⟩,
 ⟨some 95, .bin .neq (.t 94) (.c (.int .i64 0)), some (93, false), [3, 2], []⟩,
 ⟨some 96, .pick (.t 93) (.c (.bool true)) (.t 95), none, [2, 4], []⟩])
(.cond (.t 96)
 (.seq (.reg [⟨some 97, .call 7 [], none, [], []⟩,
 ⟨some 4, .mov (.t 97), none, [0, 0, 0], []⟩])
 (.ret))
 (.skip)))
(.seq (.reg [⟨some 13, .mov (.c (.bool true)), none, [], []⟩])
(.seq (.dreg [⟨some 98, .fad 0 (.t 3), none, [], []⟩,
 ⟨some 99, .load 1 false (.t 98), none, [0], []⟩,
 ⟨some 100, .bsl 1 [(.t 99)], none, [1], []⟩,
 ⟨some 101, .mov (.t 9), none, [], []⟩,
 ⟨some 102, .call 11 [(.t 101)], none, [3], []⟩,
 ⟨some 103, .app 1 8 (.t 100) (.t 102), none, [2, 4, 4], []⟩,
 ⟨some 104, .mov (.t 11), none, [], []⟩,
 ⟨some 105, .call 11 [(.t 104)], none, [6, 5], []⟩,
 ⟨some 106, .app 1 8 (.t 103) (.t 105), none, [5, 7, 7], []⟩,
 ⟨some 107, .fad 0 (.t 2), none, [], []⟩,
 ⟨some 108, .load 1 false (.t 107), none, [9], []⟩,
 ⟨some 109, .call 11 [(.t 108)], none, [10, 8], [(0, 0)]⟩,
 ⟨some 110, .app 1 8 (.t 106) (.t 109), none, [8, 11, 11], [(0, 0)]⟩,
 ⟨some 14, .mov (.t 110), none, [12, 12, 0, 1, 2, 3, 4, 5, 6, 7, 8, 9, 10, 11, 12], []⟩])
(.seq (.seq (.reg [⟨some 15, .mov (.c (.int .i64 0)), none, [], []⟩])
(.block 0
 (.loop
 (.seq (.seq (.reg [⟨some 111, .mov (.t 15), none, [], []⟩,
 ⟨some 112, .mov (.t 14), none, [], []⟩,
 ⟨some 113, .len (.t 112), none, [1], []⟩,
 ⟨some 114, .bin .lss (.t 111) (.t 113), none, [0, 2], []⟩])
 (.cond (.t 114)
 (.skip)
 (.exit 0)))
 (.seq (.block 1
 (.seq (.reg [⟨some 117, .mov (.t 14), none, [], []⟩,
 ⟨some 118, .mov (.t 15), none, [], []⟩,
 ⟨some 119, .iad 1 (.t 117) (.t 118), none, [0, 1], []⟩,
 ⟨some 120, .load 1 false (.t 119), none, [2], []⟩,
 ⟨some 16, .mov (.t 120), none, [3, 0, 1, 2, 3], []⟩])
 (.seq (.seq (.reg [⟨some 121, .mov (.t 16), none, [], []⟩,
 ⟨some 122, .fad 0 (.t 3), none, [], []⟩,
 ⟨some 123, .load 1 false (.t 122), none, [1], []⟩,
 ⟨some 124, .bin .lss (.t 121) (.t 123), none, [0, 2], []⟩,
 ⟨some 125, .mov (.t 124), none, [3], []⟩,
 ⟨some 126, .mov (.t 16), some (125, false), [4], []⟩,
 ⟨some 127, .fad 0 (.t 3), some (125, false), [4], []⟩,
 ⟨some 128, .load 1 false (.t 127), some (125, false), [6, 4], []⟩,
 ⟨some 129, .fad 1 (.t 3), some (125, false), [4], []⟩,
 ⟨some 130, .load 1 false (.t 129), some (125, false), [8, 4], []⟩,
 ⟨some 131, .bin .add (.t 128) (.t 130), some (125, false), [7, 9, 4], []⟩,
 ⟨some 132, .bin .geq (.t 126) (.t 131), some (125, false), [5, 10, 4], []⟩,
 ⟨some 133, .pick (.t 125) (.c (.bool true)) (.t 132), none, [4, 11], []⟩])
 (.cond (.t 133)
 (.exit 1)
 (.skip)))
 (.seq (.reg [⟨some 17, .mov (.c (.int .i64 0)), none, [], []⟩])
 (.block 2
 (.loop
 (.seq (.seq (.reg [⟨some 134, .mov (.t 17), none, [], []⟩,
 ⟨some 135, .fad 3 (.t 2), none, [], []⟩,
 ⟨some 136, .load 1 false (.t 135), none, [1], []⟩,
 ⟨some 137, .len (.t 136), none, [2], []⟩,
 ⟨some 138, .bin .lss (.t 134) (.t 137), none, [0, 3], []⟩])
 (.cond (.t 138)
 (.skip)
 (.exit 2)))
 (.seq (.block 3
 (.seq (.reg [⟨some 141, .fad 3 (.t 2), none, [], []⟩,
 ⟨some 142, .load 1 false (.t 141), none, [0], []⟩,
 ⟨some 143, .mov (.t 17), none, [], []⟩,
 ⟨some 144, .iad 4 (.t 142) (.t 143), none, [1, 2], []⟩,
 ⟨some 145, .load 4 true (.t 144), none, [3], []⟩,
 ⟨some 18, .alloc [(.int .u8 0), (.int .i64 0), (.int .i64 0), (.int .i64 0)], none, [], []⟩,
 ⟨none, .store 4 (.t 18) (.t 145), none, [5, 4, 0, 1, 2, 3, 4, 5], []⟩])
 (.seq (.dreg [⟨some 146, .mov (.t 13), none, [], []⟩,
 ⟨some 147, .mov (.t 146), none, [0], []⟩,
 ⟨some 148, .fad 0 (.t 18), some (147, true), [1], []⟩,
 ⟨some 149, .load 1 false (.t 148), some (147, true), [2, 1], []⟩,
 ⟨some 150, .bin .neq (.t 149) (.c (.int .u8 0)), some (147, true), [3, 1], []⟩,
 ⟨some 151, .mov (.t 150), some (147, true), [4, 1, 1], []⟩,
 ⟨some 152, .mov (.t 9), some (151, false), [5], []⟩,
 ⟨some 153, .mov (.t 16), some (151, false), [5], []⟩,
 ⟨some 154, .call 13 [(.t 152), (.t 153)], some (151, false), [6, 7, 5, 5], []⟩,
 ⟨some 155, .fad 0 (.t 2), some (151, false), [5], []⟩,
 ⟨some 156, .load 1 false (.t 155), some (151, false), [9, 5], []⟩,
 ⟨some 157, .mov (.t 16), some (151, false), [5], []⟩,
 ⟨some 158, .call 13 [(.t 156), (.t 157)], some (151, false), [10, 11, 8, 5], [(0, 0)]⟩,
 ⟨some 159, .call 12 [(.t 154), (.t 158)], some (151, false), [8, 12, 12, 5], [(0, 0)]⟩,
 ⟨some 160, .pick (.t 151) (.c (.bool true)) (.t 159), some (147, true), [5, 13, 1], []⟩,
 ⟨some 161, .pick (.t 147) (.t 160) (.c (.bool false)), none, [1, 14], []⟩,
 ⟨some 13, .mov (.t 161), none, [15, 13, 0, 1, 2, 3, 4, 5, 6, 7, 8, 9, 10, 11, 12, 13, 14, 15], []⟩])
 (.dreg [⟨some 162, .mov (.t 13), none, [], []⟩,
 ⟨some 163, .mov (.t 162), none, [0], []⟩,
 ⟨some 164, .fad 0 (.t 18), some (163, true), [1], []⟩,
 ⟨some 165, .load 1 false (.t 164), some (163, true), [2, 1], []⟩,
 ⟨some 166, .bin .neq (.t 165) (.c (.int .u8 1)), some (163, true), [3, 1], []⟩,
 ⟨some 167, .mov (.t 166), some (163, true), [4, 1, 1], []⟩,
 ⟨some 168, .mov (.t 11), some (167, false), [5], []⟩,
 ⟨some 169, .mov (.t 16), some (167, false), [5], []⟩,
 ⟨some 170, .call 13 [(.t 168), (.t 169)], some (167, false), [6, 7, 5, 5], []⟩,
 ⟨some 171, .fad 1 (.t 18), some (167, false), [5], []⟩,
 ⟨some 172, .load 2 true (.t 171), some (167, false), [9, 5], []⟩,
 ⟨some 173, .call 12 [(.t 170), (.t 172)], some (167, false), [8, 10, 8, 5], [(0, 0)]⟩,
 ⟨some 174, .pick (.t 167) (.c (.bool true)) (.t 173), some (163, true), [5, 11, 1], []⟩,
 ⟨some 175, .pick (.t 163) (.t 174) (.c (.bool false)), none, [1, 12], []⟩,
 ⟨some 13, .mov (.t 175), none, [13, 11, 0, 1, 2, 3, 4, 5, 6, 7, 8, 9, 10, 11, 12, 13], []⟩]))))
 (.reg [⟨some 139, .mov (.t 17), none, [], []⟩,
 ⟨some 140, .bin .add (.t 139) (.c (.int .i64 1)), none, [0], []⟩,
 ⟨some 17, .mov (.t 140), none, [1, 0, 1], []⟩])))))))))
 (.reg [⟨some 115, .mov (.t 15), none, [], []⟩,
 ⟨some 116, .bin .add (.t 115) (.c (.int .i64 1)), none, [0], []⟩,
 ⟨some 15, .mov (.t 116), none, [1, 0, 1], []⟩]))))))
(.seq (.reg [⟨some 176, .mov (.t 7), none, [], []⟩,
 ⟨some 177, .mov (.t 13), none, [], []⟩,
 ⟨some 178, .eqs1 false (.t 176) (.t 177), none, [0, 1], []⟩,
 ⟨some 179, .mov (.t 178), none, [2], []⟩,
 ⟨some 180, .call 7 [], some (179, true), [3, 3], []⟩,
 ⟨some 181, .pick (.t 179) (.t 180) (.c (.bool false)), none, [3, 4], []⟩,
 ⟨some 4, .mov (.t 181), none, [5, 4, 0, 1, 2, 3, 4, 5], []⟩])
(.ret)))))))))))),
[.t 4], 182⟩
theorem v_liverylaw15_FitUsed_ok : compF Tryd.prog 3 = some v_liverylaw15_FitUsed := by kernel_rfl
def v_liverylaw15_FitTakes : VFn := ⟨.seq (.reg [⟨some 4, .box (.t 1), none, [], []⟩,
 ⟨some 5, .box (.t 2), none, [], []⟩,
 ⟨some 6, .mov (.c (.bool false)), none, [], []⟩])
(.seq (.seq (.reg [⟨some 22, .mov (.t 0), none, [], []⟩,
 ⟨some 23, .len (.t 22), none, [0], []⟩,
 ⟨some 24, .bin .gtr (.t 23) (.c (.int .i64 60)), none, [1], []⟩])
(.cond (.t 24)
 (.seq (.reg [⟨some 25, .call 7 [], none, [], []⟩,
 ⟨some 6, .mov (.t 25), none, [0, 0, 0], []⟩])
 (.ret))
 (.skip)))
(.seq (.reg [⟨some 27, .mov (.t 0), none, [], []⟩,
 ⟨some 28, .fad 0 (.t 4), none, [], []⟩,
 ⟨some 29, .load 1 false (.t 28), none, [1], []⟩,
 ⟨some 30, .fad 1 (.t 4), none, [], []⟩,
 ⟨some 31, .load 1 false (.t 30), none, [3], []⟩,
 ⟨some 32, .fad 2 (.t 4), none, [], []⟩,
 ⟨some 33, .load 2 true (.t 32), none, [5], []⟩,
 ⟨some 34, .call 14 [(.t 27), (.t 29), (.t 31), (.t 33)], none, [0, 2, 4, 6], []⟩,
 ⟨some 26, .mov (.t 34), none, [7], []⟩,
 ⟨some 35, .ext (.t 26) 0, none, [8], []⟩,
 ⟨some 36, .ext (.t 26) 1, none, [8], []⟩,
 ⟨some 7, .mov (.t 35), none, [9, 7, 0, 1, 2, 3, 4, 5, 6, 7, 8, 9], []⟩,
 ⟨some 8, .mov (.t 36), none, [10, 11, 0, 1, 2, 3, 4, 5, 6, 7, 8, 9, 10, 11], []⟩])
(.seq (.seq (.reg [⟨some 37, .mov (.t 8), none, [], []⟩,
 ⟨some 38, .bin .eql (.t 37) (.c (.int .i64 0)), none, [0], []⟩])
(.cond (.t 38)
 (.seq (.reg [⟨some 40, .mov (.t 7), none, [], []⟩,
 ⟨some 41, .fad 0 (.t 4), none, [], []⟩,
 ⟨some 42, .load 1 false (.t 41), none, [1], []⟩,
 ⟨some 43, .fad 1 (.t 4), none, [], []⟩,
 ⟨some 44, .load 1 false (.t 43), none, [3], []⟩,
 ⟨some 45, .fad 2 (.t 4), none, [], []⟩,
 ⟨some 46, .fad 0 (.t 45), none, [5], []⟩,
 ⟨some 47, .load 1 false (.t 46), none, [6], []⟩,
 ⟨some 48, .un .neg (.t 47), none, [7], []⟩,
 ⟨some 49, .fad 2 (.t 4), none, [], []⟩,
 ⟨some 50, .fad 1 (.t 49), none, [9], []⟩,
 ⟨some 51, .load 1 false (.t 50), none, [10], []⟩,
 ⟨some 52, .un .neg (.t 51), none, [11], []⟩,
 ⟨some 53, .build [(.int .i64 0), (.int .i64 0)] [(0, 1, (.t 48)), (1, 1, (.t 52))], none, [8, 12], []⟩,
 ⟨some 54, .call 14 [(.t 40), (.t 42), (.t 44), (.t 53)], none, [0, 2, 4, 13], []⟩,
 ⟨some 39, .mov (.t 54), none, [14], []⟩,
 ⟨some 55, .ext (.t 39) 0, none, [15], []⟩,
 ⟨some 56, .ext (.t 39) 1, none, [15], []⟩,
 ⟨some 9, .mov (.t 55), none, [16, 14, 0, 1, 2, 3, 4, 5, 6, 7, 8, 9, 10, 11, 12, 13, 14, 15, 16], []⟩,
 ⟨some 10, .mov (.t 56), none, [17, 18, 0, 1, 2, 3, 4, 5, 6, 7, 8, 9, 10, 11, 12, 13, 14, 15, 16, 17, 18], []⟩])
 (.seq (.reg [⟨some 58, .mov (.t 0), none, [], []⟩,
 ⟨some 59, .fad 0 (.t 4), none, [], []⟩,
 ⟨some 60, .load 1 false (.t 59), none, [1], []⟩,
 ⟨some 61, .fad 1 (.t 4), none, [], []⟩,
 ⟨some 62, .load 1 false (.t 61), none, [3], []⟩,
 ⟨some 63, .fad 2 (.t 4), none, [], []⟩,
 ⟨some 64, .load 2 true (.t 63), none, [5], []⟩,
 ⟨some 65, .call 9 [(.t 58), (.t 60), (.t 62), (.t 64)], none, [0, 2, 4, 6], []⟩,
 ⟨some 57, .mov (.t 65), none, [7], []⟩,
 ⟨some 66, .ext (.t 57) 0, none, [8], []⟩,
 ⟨some 67, .ext (.t 57) 1, none, [8], []⟩,
 ⟨some 11, .mov (.t 66), none, [9, 7, 0, 1, 2, 3, 4, 5, 6, 7, 8, 9], []⟩,
 ⟨some 12, .mov (.t 67), none, [10, 11, 0, 1, 2, 3, 4, 5, 6, 7, 8, 9, 10, 11], []⟩])
 (.seq (.reg [⟨some 69, .mov (.t 7), none, [], []⟩,
 ⟨some 70, .fad 0 (.t 4), none, [], []⟩,
 ⟨some 71, .load 1 false (.t 70), none, [1], []⟩,
 ⟨some 72, .fad 1 (.t 4), none, [], []⟩,
 ⟨some 73, .load 1 false (.t 72), none, [3], []⟩,
 ⟨some 74, .build [(.int .i64 0), (.int .i64 0)] [], none, [], []⟩,
 ⟨some 75, .call 9 [(.t 69), (.t 71), (.t 73), (.t 74)], none, [0, 2, 4, 5], []⟩,
 ⟨some 68, .mov (.t 75), none, [6], []⟩,
 ⟨some 76, .ext (.t 68) 0, none, [7], []⟩,
 ⟨some 77, .ext (.t 68) 1, none, [7], []⟩,
 ⟨some 13, .mov (.t 76), none, [8, 6, 0, 1, 2, 3, 4, 5, 6, 7, 8], []⟩,
 ⟨some 14, .mov (.t 77), none, [9, 10, 0, 1, 2, 3, 4, 5, 6, 7, 8, 9, 10], []⟩])
 (.seq (.reg [⟨some 78, .mov (.t 10), none, [], []⟩,
 ⟨some 79, .bin .neq (.t 78) (.c (.int .i64 0)), none, [0], []⟩,
 ⟨some 80, .mov (.t 79), none, [1], []⟩,
 ⟨some 81, .mov (.t 12), some (80, false), [2], []⟩,
 ⟨some 82, .bin .neq (.t 81) (.c (.int .i64 0)), some (80, false), [3, 2], []⟩,
 ⟨some 83, .pick (.t 80) (.c (.bool true)) (.t 82), none, [2, 4], []⟩,
 ⟨some 84, .mov (.t 83), none, [5, 2], []⟩,
 ⟨some 85, .mov (.t 14), some (84, false), [6], []⟩,
 ⟨some 86, .bin .neq (.t 85) (.c (.int .i64 0)), some (84, false), [7, 6], []⟩,
 ⟨some 87, .pick (.t 84) (.c (.bool true)) (.t 86), none, [6, 8], []⟩,
 ⟨some 88, .mov (.t 87), none, [9, 6], []⟩,
 ⟨some 89, .mov (.t 9), some (88, false), [10], []⟩,
 ⟨some 90, .mov (.t 0), some (88, false), [10], []⟩,
 ⟨some 91, .call 15 [(.t 89), (.t 90)], some (88, false), [11, 12, 10, 10], []⟩,
 ⟨some 92, .un .not (.t 91), some (88, false), [13, 10], []⟩,
 ⟨some 93, .pick (.t 88) (.c (.bool true)) (.t 92), none, [10, 14], []⟩,
 ⟨some 94, .mov (.t 93), none, [15, 13], []⟩,
 ⟨some 95, .mov (.t 11), some (94, false), [16], []⟩,
 ⟨some 96, .mov (.t 13), some (94, false), [16], []⟩,
 ⟨some 97, .eqs1 true (.t 95) (.t 96), some (94, false), [17, 18, 16], []⟩,
 ⟨some 98, .pick (.t 94) (.c (.bool true)) (.t 97), none, [16, 19], []⟩])
 (.cond (.t 98)
 (.seq (.reg [⟨some 6, .mov (.c (.bool false)), none, [], []⟩])
 (.ret))
 (.skip))))))
 (.skip)))
(.seq (.reg [⟨some 99, .iaa 2 1 (.t 5) (.c (.int .i64 0)), none, [], []⟩,
 ⟨some 100, .load 1 false (.t 99), none, [0], []⟩,
 ⟨some 101, .bin .rem (.t 100) (.c (.int .u16 1000)), none, [1], []⟩,
 ⟨some 102, .conv .i64 (.t 101), none, [2], []⟩,
 ⟨some 103, .bin .add (.c (.int .i64 1)) (.t 102), none, [3], []⟩,
 ⟨some 104, .iaa 2 1 (.t 5) (.c (.int .i64 1)), none, [], []⟩,
 ⟨some 105, .load 1 false (.t 104), none, [5], []⟩,
 ⟨some 106, .bin .rem (.t 105) (.c (.int .u16 1000)), none, [6], []⟩,
 ⟨some 107, .conv .i64 (.t 106), none, [7], []⟩,
 ⟨some 108, .bin .add (.c (.int .i64 1)) (.t 107), none, [8], []⟩,
 ⟨some 109, .build [(.int .i64 0), (.int .i64 0)] [(0, 1, (.t 103)), (1, 1, (.t 108))], none, [4, 9], []⟩,
 ⟨some 15, .alloc [(.int .i64 0), (.int .i64 0)], none, [], []⟩,
 ⟨none, .store 2 (.t 15) (.t 109), none, [11, 10, 0, 1, 2, 3, 4, 5, 6, 7, 8, 9, 10, 11], []⟩])
(.seq (.reg [⟨some 111, .mov (.t 0), none, [], []⟩,
 ⟨some 112, .fad 0 (.t 4), none, [], []⟩,
 ⟨some 113, .load 1 false (.t 112), none, [1], []⟩,
 ⟨some 114, .fad 1 (.t 4), none, [], []⟩,
 ⟨some 115, .load 1 false (.t 114), none, [3], []⟩,
 ⟨some 116, .load 2 true (.t 15), none, [], []⟩,
 ⟨some 117, .call 16 [(.t 111), (.t 113), (.t 115), (.t 116)], none, [0, 2, 4, 5], []⟩,
 ⟨some 110, .mov (.t 117), none, [6], []⟩,
 ⟨some 118, .ext (.t 110) 0, none, [7], []⟩,
 ⟨some 119, .ext (.t 110) 1, none, [7], []⟩,
 ⟨some 16, .mov (.t 118), none, [8, 6, 0, 1, 2, 3, 4, 5, 6, 7, 8], []⟩,
 ⟨some 17, .mov (.t 119), none, [9, 10, 0, 1, 2, 3, 4, 5, 6, 7, 8, 9, 10], []⟩])
(.seq (.seq (.reg [⟨some 120, .mov (.t 17), none, [], []⟩,
 ⟨some 121, .bin .neq (.t 120) (.c (.int .i64 0)), none, [0], []⟩])
(.cond (.t 121)
 (.seq (.reg [⟨some 122, .mov (.t 16), none, [], []⟩,
 ⟨some 123, .bin .eql (.t 122) (.c (.int .i64 0)), none, [0], []⟩,
 ⟨some 124, .mov (.t 123), none, [1], []⟩,
 ⟨some 125, .call 7 [], some (124, true), [2, 2], []⟩,
 ⟨some 126, .pick (.t 124) (.t 125) (.c (.bool false)), none, [2, 3], []⟩,
 ⟨some 6, .mov (.t 126), none, [4, 3, 0, 1, 2, 3, 4], []⟩])
 (.ret))
 (.skip)))
(.seq (.seq (.reg [⟨some 127, .mov (.t 16), none, [], []⟩,
 ⟨some 128, .bin .gtr (.t 127) (.c (.int .i64 549755813888)), none, [0], []⟩])
(.cond (.t 128)
 (.seq (.reg [⟨some 129, .call 7 [], none, [], []⟩,
 ⟨some 6, .mov (.t 129), none, [0, 0, 0], []⟩])
 (.ret))
 (.skip)))
(.seq (.reg [⟨some 131, .mov (.t 0), none, [], []⟩,
 ⟨some 132, .fad 0 (.t 4), none, [], []⟩,
 ⟨some 133, .load 1 false (.t 132), none, [1], []⟩,
 ⟨some 134, .fad 1 (.t 4), none, [], []⟩,
 ⟨some 135, .load 1 false (.t 134), none, [3], []⟩,
 ⟨some 136, .mov (.t 16), none, [], []⟩,
 ⟨some 137, .fad 0 (.t 15), none, [], []⟩,
 ⟨some 138, .load 1 false (.t 137), none, [6], []⟩,
 ⟨some 139, .bin .mul (.t 136) (.t 138), none, [5, 7], []⟩,
 ⟨some 140, .mov (.t 16), none, [], []⟩,
 ⟨some 141, .fad 1 (.t 15), none, [], []⟩,
 ⟨some 142, .load 1 false (.t 141), none, [10], []⟩,
 ⟨some 143, .bin .mul (.t 140) (.t 142), none, [9, 11], []⟩,
 ⟨some 144, .build [(.int .i64 0), (.int .i64 0)] [(0, 1, (.t 139)), (1, 1, (.t 143))], none, [8, 12], []⟩,
 ⟨some 145, .call 9 [(.t 131), (.t 133), (.t 135), (.t 144)], none, [0, 2, 4, 13], []⟩,
 ⟨some 130, .mov (.t 145), none, [14], []⟩,
 ⟨some 146, .ext (.t 130) 0, none, [15], []⟩,
 ⟨some 147, .ext (.t 130) 1, none, [15], []⟩,
 ⟨some 18, .mov (.t 146), none, [16, 14, 0, 1, 2, 3, 4, 5, 6, 7, 8, 9, 10, 11, 12, 13, 14, 15, 16], []⟩,
 ⟨some 19, .mov (.t 147), none, [17, 18, 0, 1, 2, 3, 4, 5, 6, 7, 8, 9, 10, 11, 12, 13, 14, 15, 16, 17, 18], []⟩])
(.seq (.reg [⟨some 149, .mov (.t 0), none, [], []⟩,
 ⟨some 150, .fad 0 (.t 4), none, [], []⟩,
 ⟨some 151, .load 1 false (.t 150), none, [1], []⟩,
 ⟨some 152, .fad 1 (.t 4), none, [], []⟩,
 ⟨some 153, .load 1 false (.t 152), none, [3], []⟩,
 ⟨some 154, .mov (.t 16), none, [], []⟩,
 ⟨some 155, .bin .add (.t 154) (.c (.int .i64 1)), none, [5], []⟩,
 ⟨some 156, .fad 0 (.t 15), none, [], []⟩,
 ⟨some 157, .load 1 false (.t 156), none, [7], []⟩,
 ⟨some 158, .bin .mul (.t 155) (.t 157), none, [6, 8], []⟩,
 ⟨some 159, .mov (.t 16), none, [], []⟩,
 ⟨some 160, .bin .add (.t 159) (.c (.int .i64 1)), none, [10], []⟩,
 ⟨some 161, .fad 1 (.t 15), none, [], []⟩,
 ⟨some 162, .load 1 false (.t 161), none, [12], []⟩,
 ⟨some 163, .bin .mul (.t 160) (.t 162), none, [11, 13], []⟩,
 ⟨some 164, .build [(.int .i64 0), (.int .i64 0)] [(0, 1, (.t 158)), (1, 1, (.t 163))], none, [9, 14], []⟩,
 ⟨some 165, .call 9 [(.t 149), (.t 151), (.t 153), (.t 164)], none, [0, 2, 4, 15], []⟩,
 ⟨some 148, .mov (.t 165), none, [16], []⟩,
 ⟨some 166, .ext (.t 148) 0, none, [17], []⟩,
 ⟨some 167, .ext (.t 148) 1, none, [17], []⟩,
 ⟨some 20, .mov (.t 166), none, [18, 16, 0, 1, 2, 3, 4, 5, 6, 7, 8, 9, 10, 11, 12, 13, 14, 15, 16, 17, 18], []⟩,
 ⟨some 21, .mov (.t 167), none, [19, 20, 0, 1, 2, 3, 4, 5, 6, 7, 8, 9, 10, 11, 12, 13, 14, 15, 16, 17, 18, 19, 20], []⟩])
(.seq (.reg [⟨some 168, .mov (.t 19), none, [], []⟩,
 ⟨some 169, .bin .eql (.t 168) (.c (.int .i64 0)), none, [0], []⟩,
 ⟨some 170, .mov (.t 169), none, [1], []⟩,
 ⟨some 171, .mov (.t 21), some (170, true), [2], []⟩,
 ⟨some 172, .bin .eql (.t 171) (.c (.int .i64 0)), some (170, true), [3, 2], []⟩,
 ⟨some 173, .pick (.t 170) (.t 172) (.c (.bool false)), none, [2, 4], []⟩,
 ⟨some 174, .mov (.t 173), none, [5, 2], []⟩,
 ⟨some 175, .mov (.t 18), some (174, true), [6], []⟩,
 ⟨some 176, .mov (.t 175), some (174, true), [7, 6, 6], []⟩,
 ⟨some 177, .mov (.t 16), some (176, false), [8], []⟩,
 ⟨some 178, .bin .eql (.t 177) (.c (.int .i64 0)), some (176, false), [9, 8], []⟩,
 ⟨some 179, .pick (.t 176) (.c (.bool true)) (.t 178), some (174, true), [8, 10, 6], []⟩,
 ⟨some 180, .pick (.t 174) (.t 179) (.c (.bool false)), none, [6, 11], []⟩,
 ⟨some 181, .mov (.t 180), none, [12, 8], []⟩,
 ⟨some 182, .mov (.t 20), some (181, true), [13], []⟩,
 ⟨some 183, .un .not (.t 182), some (181, true), [14, 13], []⟩,
 ⟨some 184, .pick (.t 181) (.t 183) (.c (.bool false)), none, [13, 15], []⟩,
 ⟨some 185, .mov (.t 184), none, [16, 13], []⟩,
 ⟨some 186, .mov (.t 16), some (185, true), [17], []⟩,
 ⟨some 187, .bin .geq (.t 186) (.c (.int .i64 0)), some (185, true), [18, 17], []⟩,
 ⟨some 188, .pick (.t 185) (.t 187) (.c (.bool false)), none, [17, 19], []⟩,
 ⟨some 189, .mov (.t 188), none, [20, 17], []⟩,
 ⟨some 190, .call 7 [], some (189, true), [21, 21], []⟩,
 ⟨some 191, .pick (.t 189) (.t 190) (.c (.bool false)), none, [21, 22], []⟩,
 ⟨some 6, .mov (.t 191), none, [23, 22, 0, 1, 2, 3, 4, 5, 6, 7, 8, 9, 10, 11, 12, 13, 14, 15, 16, 17, 18, 19, 20, 21, 22, 23], []⟩])
(.ret))))))))))),
[.t 6], 192⟩
theorem v_liverylaw15_FitTakes_ok : compF Tryd.prog 4 = some v_liverylaw15_FitTakes := by kernel_rfl
def v_liverylaw15_FitLess : VFn := ⟨.seq (.reg [⟨some 3, .box (.t 0), none, [], []⟩,
 ⟨some 5, .box (.t 2), none, [], []⟩,
 ⟨some 6, .mov (.c (.bool false)), none, [], []⟩])
(.seq (.seq (.reg [⟨some 23, .load 5 true (.t 3), none, [], []⟩,
 ⟨some 24, .call 6 [(.t 23)], none, [0], []⟩,
 ⟨some 25, .mov (.t 24), none, [1, 1], []⟩,
 ⟨some 26, .mov (.t 1), some (25, false), [2], []⟩,
 ⟨some 27, .len (.t 26), some (25, false), [3, 2], []⟩,
 ⟨some 28, .bin .gtr (.t 27) (.c (.int .i64 40)), some (25, false), [4, 2], []⟩,
 ⟨some 29, .pick (.t 25) (.c (.bool true)) (.t 28), none, [2, 5], []⟩])
(.cond (.t 29)
 (.seq (.reg [⟨some 30, .call 7 [], none, [], []⟩,
 ⟨some 6, .mov (.t 30), none, [0, 0, 0], []⟩])
 (.ret))
 (.skip)))
(.seq (.reg [⟨some 32, .fad 0 (.t 3), none, [], []⟩,
 ⟨some 33, .load 1 false (.t 32), none, [0], []⟩,
 ⟨some 34, .fad 1 (.t 3), none, [], []⟩,
 ⟨some 35, .load 1 false (.t 34), none, [2], []⟩,
 ⟨some 36, .fad 2 (.t 3), none, [], []⟩,
 ⟨some 37, .load 1 false (.t 36), none, [4], []⟩,
 ⟨some 38, .fad 3 (.t 3), none, [], []⟩,
 ⟨some 39, .load 1 false (.t 38), none, [6], []⟩,
 ⟨some 40, .fad 4 (.t 3), none, [], []⟩,
 ⟨some 41, .load 1 false (.t 40), none, [8], []⟩,
 ⟨some 42, .call 8 [(.t 33), (.t 35), (.t 37), (.t 39), (.t 41)], none, [1, 3, 5, 7, 9], []⟩,
 ⟨some 31, .mov (.t 42), none, [10], []⟩,
 ⟨some 43, .ext (.t 31) 0, none, [11], []⟩,
 ⟨some 44, .ext (.t 31) 1, none, [11], []⟩,
 ⟨some 7, .mov (.t 43), none, [12, 10, 0, 1, 2, 3, 4, 5, 6, 7, 8, 9, 10, 11, 12], []⟩,
 ⟨some 8, .mov (.t 44), none, [13, 14, 0, 1, 2, 3, 4, 5, 6, 7, 8, 9, 10, 11, 12, 13, 14], []⟩])
(.seq (.seq (.reg [⟨some 45, .mov (.t 8), none, [], []⟩,
 ⟨some 46, .bin .neq (.t 45) (.c (.int .i64 0)), none, [0], []⟩])
(.cond (.t 46)
 (.seq (.reg [⟨some 47, .mov (.t 7), none, [], []⟩,
 ⟨some 48, .len (.t 47), none, [0], []⟩,
 ⟨some 49, .bin .eql (.t 48) (.c (.int .i64 0)), none, [1], []⟩,
 ⟨some 50, .mov (.t 49), none, [2], []⟩,
 ⟨some 51, .call 7 [], some (50, true), [3, 3], []⟩,
 ⟨some 52, .pick (.t 50) (.t 51) (.c (.bool false)), none, [3, 4], []⟩,
 ⟨some 6, .mov (.t 52), none, [5, 4, 0, 1, 2, 3, 4, 5], []⟩])
 (.ret))
 (.skip)))
(.seq (.reg [⟨some 9, .mov (.c (.sl [] .full)), none, [], []⟩])
(.seq (.seq (.reg [⟨some 53, .fad 3 (.t 3), none, [], []⟩,
 ⟨some 54, .load 1 false (.t 53), none, [0], []⟩,
 ⟨some 55, .len (.t 54), none, [1], []⟩,
 ⟨some 56, .bin .sub (.t 55) (.c (.int .i64 1)), none, [2], []⟩,
 ⟨some 10, .mov (.t 56), none, [3, 0, 1, 2, 3], []⟩])
(.block 0
 (.loop
 (.seq (.seq (.reg [⟨some 57, .mov (.t 10), none, [], []⟩,
 ⟨some 58, .bin .geq (.t 57) (.c (.int .i64 0)), none, [0], []⟩])
 (.cond (.t 58)
 (.skip)
 (.exit 0)))
 (.seq (.block 1
 (.reg [⟨some 61, .mov (.t 9), none, [], []⟩,
 ⟨some 62, .fad 3 (.t 3), none, [], []⟩,
 ⟨some 63, .load 1 false (.t 62), none, [1], []⟩,
 ⟨some 64, .mov (.t 10), none, [], []⟩,
 ⟨some 65, .iad 4 (.t 63) (.t 64), none, [2, 3], []⟩,
 ⟨some 66, .load 4 true (.t 65), none, [4], []⟩,
 ⟨some 67, .bsl 4 [(.t 66)], none, [5], []⟩,
 ⟨some 68, .app 4 32 (.t 61) (.t 67), none, [0, 6], []⟩,
 ⟨some 9, .mov (.t 68), none, [7, 7, 0, 1, 2, 3, 4, 5, 6, 7], []⟩]))
 (.reg [⟨some 59, .mov (.t 10), none, [], []⟩,
 ⟨some 60, .bin .sub (.t 59) (.c (.int .i64 1)), none, [0], []⟩,
 ⟨some 10, .mov (.t 60), none, [1, 0, 1], []⟩]))))))
(.seq (.reg [⟨some 70, .fad 0 (.t 3), none, [], []⟩,
 ⟨some 71, .load 1 false (.t 70), none, [0], []⟩,
 ⟨some 72, .fad 1 (.t 3), none, [], []⟩,
 ⟨some 73, .load 1 false (.t 72), none, [2], []⟩,
 ⟨some 74, .fad 2 (.t 3), none, [], []⟩,
 ⟨some 75, .load 1 false (.t 74), none, [4], []⟩,
 ⟨some 76, .mov (.t 9), none, [], []⟩,
 ⟨some 77, .fad 4 (.t 3), none, [], []⟩,
 ⟨some 78, .load 1 false (.t 77), none, [7], []⟩,
 ⟨some 79, .call 8 [(.t 71), (.t 73), (.t 75), (.t 76), (.t 78)], none, [1, 3, 5, 6, 8], []⟩,
 ⟨some 69, .mov (.t 79), none, [9], []⟩,
 ⟨some 80, .ext (.t 69) 0, none, [10], []⟩,
 ⟨some 81, .ext (.t 69) 1, none, [10], []⟩,
 ⟨some 11, .mov (.t 80), none, [11, 9, 0, 1, 2, 3, 4, 5, 6, 7, 8, 9, 10, 11], []⟩,
 ⟨some 12, .mov (.t 81), none, [12, 13, 0, 1, 2, 3, 4, 5, 6, 7, 8, 9, 10, 11, 12, 13], []⟩])
(.seq (.seq (.reg [⟨some 82, .mov (.t 12), none, [], []⟩,
 ⟨some 83, .bin .neq (.t 82) (.c (.int .i64 0)), none, [0], []⟩,
 ⟨some 84, .mov (.t 83), none, [1], []⟩,
 ⟨some 85, .mov (.t 7), some (84, false), [2], []⟩,
 ⟨some 86, .mov (.t 11), some (84, false), [2], []⟩,
 ⟨some 87, .call 15 [(.t 85), (.t 86)], some (84, false), [3, 4, 2, 2], []⟩,
 ⟨some 88, .un .not (.t 87), some (84, false), [5, 2], []⟩,
 ⟨some 89, .pick (.t 84) (.c (.bool true)) (.t 88), none, [2, 6], []⟩])
(.cond (.t 89)
 (.seq (.reg [⟨some 6, .mov (.c (.bool false)), none, [], []⟩])
 (.ret))
 (.skip)))
(.seq (.dreg [⟨some 91, .fad 0 (.t 3), none, [], []⟩,
 ⟨some 92, .load 1 false (.t 91), none, [0], []⟩,
 ⟨some 93, .fad 1 (.t 3), none, [], []⟩,
 ⟨some 94, .load 1 false (.t 93), none, [2], []⟩,
 ⟨some 95, .fad 2 (.t 3), none, [], []⟩,
 ⟨some 96, .load 1 false (.t 95), none, [4], []⟩,
 ⟨some 97, .bsl 4 [], none, [], []⟩,
 ⟨some 98, .fad 3 (.t 3), none, [], []⟩,
 ⟨some 99, .load 1 false (.t 98), none, [7], []⟩,
 ⟨some 100, .app 4 32 (.t 97) (.t 99), none, [6, 8], []⟩,
 ⟨some 101, .load 4 true (.t 5), none, [], []⟩,
 ⟨some 102, .bsl 4 [(.t 101)], none, [10], []⟩,
 ⟨some 103, .app 4 32 (.t 100) (.t 102), none, [9, 11, 9], []⟩,
 ⟨some 104, .fad 4 (.t 3), none, [], []⟩,
 ⟨some 105, .load 1 false (.t 104), none, [13], []⟩,
 ⟨some 106, .call 8 [(.t 92), (.t 94), (.t 96), (.t 103), (.t 105)], none, [1, 3, 5, 12, 14, 12], [(0, 0)]⟩,
 ⟨some 90, .mov (.t 106), none, [15], []⟩,
 ⟨some 107, .ext (.t 90) 0, none, [16], []⟩,
 ⟨some 108, .ext (.t 90) 1, none, [16], []⟩,
 ⟨some 13, .mov (.t 107), none, [17, 15, 0, 1, 2, 3, 4, 5, 6, 7, 8, 9, 10, 11, 12, 13, 14, 15, 16, 17], []⟩,
 ⟨some 14, .mov (.t 108), none, [18, 19, 0, 1, 2, 3, 4, 5, 6, 7, 8, 9, 10, 11, 12, 13, 14, 15, 16, 17, 18, 19], []⟩])
(.seq (.seq (.reg [⟨some 109, .mov (.t 14), none, [], []⟩,
 ⟨some 110, .bin .eql (.t 109) (.c (.int .i64 0)), none, [0], []⟩,
 ⟨some 111, .mov (.t 110), none, [1], []⟩,
 ⟨some 112, .mov (.t 13), some (111, true), [2], []⟩,
 ⟨some 113, .mov (.t 7), some (111, true), [2], []⟩,
 ⟨some 114, .call 17 [(.t 112), (.t 113)], some (111, true), [3, 4, 2, 2], []⟩,
 ⟨some 115, .un .not (.t 114), some (111, true), [5, 2], []⟩,
 ⟨some 116, .pick (.t 111) (.t 115) (.c (.bool false)), none, [2, 6], []⟩])
(.cond (.t 116)
 (.seq (.reg [⟨some 6, .mov (.c (.bool false)), none, [], []⟩])
 (.ret))
 (.skip)))
(.seq (.reg [⟨some 118, .fad 1 (.t 3), none, [], []⟩,
 ⟨some 119, .load 1 false (.t 118), none, [0], []⟩,
 ⟨some 120, .mov (.t 1), none, [], []⟩,
 ⟨some 121, .call 18 [(.t 119), (.t 120)], none, [1, 2], []⟩,
 ⟨some 117, .mov (.t 121), none, [3], []⟩,
 ⟨some 122, .ext (.t 117) 0, none, [4], []⟩,
 ⟨some 123, .ext (.t 117) 1, none, [4], []⟩,
 ⟨some 15, .mov (.t 122), none, [5, 3, 0, 1, 2, 3, 4, 5], []⟩,
 ⟨some 16, .mov (.t 123), none, [6, 7, 0, 1, 2, 3, 4, 5, 6, 7], []⟩])
(.seq (.reg [⟨some 125, .fad 0 (.t 3), none, [], []⟩,
 ⟨some 126, .load 1 false (.t 125), none, [0], []⟩,
 ⟨some 127, .mov (.t 15), none, [], []⟩,
 ⟨some 128, .fad 2 (.t 3), none, [], []⟩,
 ⟨some 129, .load 1 false (.t 128), none, [3], []⟩,
 ⟨some 130, .fad 3 (.t 3), none, [], []⟩,
 ⟨some 131, .load 1 false (.t 130), none, [5], []⟩,
 ⟨some 132, .fad 4 (.t 3), none, [], []⟩,
 ⟨some 133, .load 1 false (.t 132), none, [7], []⟩,
 ⟨some 134, .call 8 [(.t 126), (.t 127), (.t 129), (.t 131), (.t 133)], none, [1, 2, 4, 6, 8], []⟩,
 ⟨some 124, .mov (.t 134), none, [9], []⟩,
 ⟨some 135, .ext (.t 124) 0, none, [10], []⟩,
 ⟨some 136, .ext (.t 124) 1, none, [10], []⟩,
 ⟨some 17, .mov (.t 135), none, [11, 9, 0, 1, 2, 3, 4, 5, 6, 7, 8, 9, 10, 11], []⟩,
 ⟨some 18, .mov (.t 136), none, [12, 13, 0, 1, 2, 3, 4, 5, 6, 7, 8, 9, 10, 11, 12, 13], []⟩])
(.seq (.seq (.reg [⟨some 137, .mov (.t 16), none, [], []⟩,
 ⟨some 138, .bin .eql (.t 137) (.c (.int .i64 0)), none, [0], []⟩,
 ⟨some 139, .mov (.t 138), none, [1], []⟩,
 ⟨some 140, .mov (.t 18), some (139, true), [2], []⟩,
 ⟨some 141, .bin .eql (.t 140) (.c (.int .i64 0)), some (139, true), [3, 2], []⟩,
 ⟨some 142, .pick (.t 139) (.t 141) (.c (.bool false)), none, [2, 4], []⟩,
 ⟨some 143, .mov (.t 142), none, [5, 2], []⟩,
 ⟨some 144, .mov (.t 17), some (143, true), [6], []⟩,
 ⟨some 145, .mov (.t 7), some (143, true), [6], []⟩,
 ⟨some 146, .call 17 [(.t 144), (.t 145)], some (143, true), [7, 8, 6, 6], []⟩,
 ⟨some 147, .un .not (.t 146), some (143, true), [9, 6], []⟩,
 ⟨some 148, .pick (.t 143) (.t 147) (.c (.bool false)), none, [6, 10], []⟩])
(.cond (.t 148)
 (.seq (.reg [⟨some 6, .mov (.c (.bool false)), none, [], []⟩])
 (.ret))
 (.skip)))
(.seq (.reg [⟨some 150, .fad 0 (.t 3), none, [], []⟩,
 ⟨some 151, .load 1 false (.t 150), none, [0], []⟩,
 ⟨some 152, .mov (.t 1), none, [], []⟩,
 ⟨some 153, .call 19 [(.t 151), (.t 152)], none, [1, 2], []⟩,
 ⟨some 149, .mov (.t 153), none, [3], []⟩,
 ⟨some 154, .ext (.t 149) 0, none, [4], []⟩,
 ⟨some 155, .ext (.t 149) 1, none, [4], []⟩,
 ⟨some 19, .mov (.t 154), none, [5, 3, 0, 1, 2, 3, 4, 5], []⟩,
 ⟨some 20, .mov (.t 155), none, [6, 7, 0, 1, 2, 3, 4, 5, 6, 7], []⟩])
(.seq (.reg [⟨some 157, .mov (.t 19), none, [], []⟩,
 ⟨some 158, .fad 1 (.t 3), none, [], []⟩,
 ⟨some 159, .load 1 false (.t 158), none, [1], []⟩,
 ⟨some 160, .fad 2 (.t 3), none, [], []⟩,
 ⟨some 161, .load 1 false (.t 160), none, [3], []⟩,
 ⟨some 162, .fad 3 (.t 3), none, [], []⟩,
 ⟨some 163, .load 1 false (.t 162), none, [5], []⟩,
 ⟨some 164, .fad 4 (.t 3), none, [], []⟩,
 ⟨some 165, .load 1 false (.t 164), none, [7], []⟩,
 ⟨some 166, .call 8 [(.t 157), (.t 159), (.t 161), (.t 163), (.t 165)], none, [0, 2, 4, 6, 8], []⟩,
 ⟨some 156, .mov (.t 166), none, [9], []⟩,
 ⟨some 167, .ext (.t 156) 0, none, [10], []⟩,
 ⟨some 168, .ext (.t 156) 1, none, [10], []⟩,
 ⟨some 21, .mov (.t 167), none, [11, 9, 0, 1, 2, 3, 4, 5, 6, 7, 8, 9, 10, 11], []⟩,
 ⟨some 22, .mov (.t 168), none, [12, 13, 0, 1, 2, 3, 4, 5, 6, 7, 8, 9, 10, 11, 12, 13], []⟩])
(.seq (.reg [⟨some 169, .mov (.t 20), none, [], []⟩,
 ⟨some 170, .bin .neq (.t 169) (.c (.int .i64 0)), none, [0], []⟩,
 ⟨some 171, .mov (.t 170), none, [1], []⟩,
 ⟨some 172, .mov (.t 22), some (171, false), [2], []⟩,
 ⟨some 173, .bin .neq (.t 172) (.c (.int .i64 0)), some (171, false), [3, 2], []⟩,
 ⟨some 174, .pick (.t 171) (.c (.bool true)) (.t 173), none, [2, 4], []⟩,
 ⟨some 175, .mov (.t 174), none, [5, 2], []⟩,
 ⟨some 176, .mov (.t 21), some (175, false), [6], []⟩,
 ⟨some 177, .mov (.t 7), some (175, false), [6], []⟩,
 ⟨some 178, .call 17 [(.t 176), (.t 177)], some (175, false), [7, 8, 6, 6], []⟩,
 ⟨some 179, .pick (.t 175) (.c (.bool true)) (.t 178), none, [6, 9], []⟩,
 ⟨some 180, .mov (.t 179), none, [10, 9], []⟩,
 ⟨some 181, .call 7 [], some (180, true), [11, 11], []⟩,
 ⟨some 182, .pick (.t 180) (.t 181) (.c (.bool false)), none, [11, 12], []⟩,
 ⟨some 6, .mov (.t 182), none, [13, 12, 0, 1, 2, 3, 4, 5, 6, 7, 8, 9, 10, 11, 12, 13], []⟩])
(.ret)))))))))))))))),
[.t 6], 183⟩
theorem v_liverylaw15_FitLess_ok : compF Tryd.prog 5 = some v_liverylaw15_FitLess := by kernel_rfl
def v_liverylaw15_great : VFn := ⟨.seq (.reg [⟨some 1, .box (.t 0), none, [], []⟩,
 ⟨some 2, .mov (.c (.bool false)), none, [], []⟩])
(.seq (.reg [⟨some 3, .fad 0 (.t 1), none, [], []⟩,
 ⟨some 4, .load 1 false (.t 3), none, [0], []⟩,
 ⟨some 5, .len (.t 4), none, [1], []⟩,
 ⟨some 6, .bin .gtr (.t 5) (.c (.int .i64 40)), none, [2], []⟩,
 ⟨some 7, .mov (.t 6), none, [3], []⟩,
 ⟨some 8, .fad 1 (.t 1), some (7, false), [4], []⟩,
 ⟨some 9, .load 1 false (.t 8), some (7, false), [5, 4], []⟩,
 ⟨some 10, .len (.t 9), some (7, false), [6, 4], []⟩,
 ⟨some 11, .bin .gtr (.t 10) (.c (.int .i64 40)), some (7, false), [7, 4], []⟩,
 ⟨some 12, .pick (.t 7) (.c (.bool true)) (.t 11), none, [4, 8], []⟩,
 ⟨some 13, .mov (.t 12), none, [9, 4], []⟩,
 ⟨some 14, .fad 2 (.t 1), some (13, false), [10], []⟩,
 ⟨some 15, .load 1 false (.t 14), some (13, false), [11, 10], []⟩,
 ⟨some 16, .len (.t 15), some (13, false), [12, 10], []⟩,
 ⟨some 17, .bin .gtr (.t 16) (.c (.int .i64 40)), some (13, false), [13, 10], []⟩,
 ⟨some 18, .pick (.t 13) (.c (.bool true)) (.t 17), none, [10, 14], []⟩,
 ⟨some 19, .mov (.t 18), none, [15, 10], []⟩,
 ⟨some 20, .fad 3 (.t 1), some (19, false), [16], []⟩,
 ⟨some 21, .load 1 false (.t 20), some (19, false), [17, 16], []⟩,
 ⟨some 22, .len (.t 21), some (19, false), [18, 16], []⟩,
 ⟨some 23, .bin .gtr (.t 22) (.c (.int .i64 10)), some (19, false), [19, 16], []⟩,
 ⟨some 24, .pick (.t 19) (.c (.bool true)) (.t 23), none, [16, 20], []⟩,
 ⟨some 2, .mov (.t 24), none, [21, 16, 0, 1, 2, 3, 4, 5, 6, 7, 8, 9, 10, 11, 12, 13, 14, 15, 16, 17, 18, 19, 20, 21], []⟩])
(.ret)),
[.t 2], 25⟩
theorem v_liverylaw15_great_ok : compF Tryd.prog 6 = some v_liverylaw15_great := by kernel_rfl
def v_liverylaw15_head : VFn := ⟨.seq (.reg [⟨some 0, .mov (.c (.bool false)), none, [], []⟩])
(.seq (.reg [⟨some 21, .build [(.int .i64 0), (.int .i64 0)] [(0, 1, (.c (.int .i64 10))), (1, 1, (.c (.int .i64 10)))], none, [], []⟩,
 ⟨some 22, .build [(.int .i64 0), (.int .i64 0), (.int .i64 0)] [(1, 2, (.t 21))], none, [0], []⟩,
 ⟨some 23, .bsl 3 [(.t 22)], none, [1], []⟩,
 ⟨some 1, .mov (.t 23), none, [2, 0, 1, 2], []⟩])
(.seq (.reg [⟨some 24, .call 20 [(.c (.int .i64 2)), (.c (.int .i64 8)), (.c (.int .i64 3)), (.c (.int .i64 1))], none, [], []⟩,
 ⟨some 2, .mov (.t 24), none, [0, 0, 0], []⟩])
(.seq (.reg [⟨some 26, .mov (.t 1), none, [], []⟩,
 ⟨some 27, .mov (.t 2), none, [], []⟩,
 ⟨some 28, .mov (.t 2), none, [], []⟩,
 ⟨some 29, .build [(.int .u8 0), (.int .i64 0), (.int .i64 0), (.int .i64 0)] [], none, [], []⟩,
 ⟨some 30, .bsl 4 [(.t 29)], none, [3], []⟩,
 ⟨some 31, .call 8 [(.t 26), (.t 27), (.t 28), (.t 30), (.c (.int .i64 0))], none, [0, 1, 2, 4], []⟩,
 ⟨some 25, .mov (.t 31), none, [5], []⟩,
 ⟨some 32, .ext (.t 25) 0, none, [6], []⟩,
 ⟨some 33, .ext (.t 25) 1, none, [6], []⟩,
 ⟨some 3, .mov (.t 32), none, [7, 5, 0, 1, 2, 3, 4, 5, 6, 7], []⟩,
 ⟨some 4, .mov (.t 33), none, [8, 9, 0, 1, 2, 3, 4, 5, 6, 7, 8, 9], []⟩])
(.seq (.reg [⟨some 35, .mov (.t 1), none, [], []⟩,
 ⟨some 36, .mov (.t 2), none, [], []⟩,
 ⟨some 37, .mov (.t 2), none, [], []⟩,
 ⟨some 38, .build [(.int .i64 0), (.int .i64 0)] [(0, 1, (.c (.int .i64 4))), (1, 1, (.c (.int .i64 4)))], none, [], []⟩,
 ⟨some 39, .build [(.int .u8 0), (.int .i64 0), (.int .i64 0), (.int .i64 0)] [(0, 1, (.c (.int .u8 1))), (1, 2, (.t 38))], none, [3], []⟩,
 ⟨some 40, .bsl 4 [(.t 39)], none, [4], []⟩,
 ⟨some 41, .call 8 [(.t 35), (.t 36), (.t 37), (.t 40), (.c (.int .i64 3))], none, [0, 1, 2, 5], []⟩,
 ⟨some 34, .mov (.t 41), none, [6], []⟩,
 ⟨some 42, .ext (.t 34) 0, none, [7], []⟩,
 ⟨some 43, .ext (.t 34) 1, none, [7], []⟩,
 ⟨some 5, .mov (.t 42), none, [8, 6, 0, 1, 2, 3, 4, 5, 6, 7, 8], []⟩,
 ⟨some 6, .mov (.t 43), none, [9, 10, 0, 1, 2, 3, 4, 5, 6, 7, 8, 9, 10], []⟩])
(.seq (.reg [⟨some 45, .mov (.t 3), none, [], []⟩,
 ⟨some 46, .build [(.int .i64 0), (.int .i64 0)] [(0, 1, (.c (.int .i64 7))), (1, 1, (.c (.int .i64 9)))], none, [], []⟩,
 ⟨some 47, .call 9 [(.t 45), (.c (.int .i64 1)), (.c (.int .i64 3)), (.t 46)], none, [0, 1], []⟩,
 ⟨some 44, .mov (.t 47), none, [2], []⟩,
 ⟨some 48, .ext (.t 44) 0, none, [3], []⟩,
 ⟨some 49, .ext (.t 44) 1, none, [3], []⟩,
 ⟨some 7, .mov (.t 48), none, [4, 2, 0, 1, 2, 3, 4], []⟩,
 ⟨some 8, .mov (.t 49), none, [5, 6, 0, 1, 2, 3, 4, 5, 6], []⟩])
(.seq (.reg [⟨some 51, .mov (.t 3), none, [], []⟩,
 ⟨some 52, .build [(.int .i64 0), (.int .i64 0)] [(0, 1, (.c (.int .i64 8))), (1, 1, (.c (.int .i64 1)))], none, [], []⟩,
 ⟨some 53, .call 9 [(.t 51), (.c (.int .i64 1)), (.c (.int .i64 2)), (.t 52)], none, [0, 1], []⟩,
 ⟨some 50, .mov (.t 53), none, [2], []⟩,
 ⟨some 54, .ext (.t 50) 0, none, [3], []⟩,
 ⟨some 55, .ext (.t 50) 1, none, [3], []⟩,
 ⟨some 9, .mov (.t 54), none, [4, 2, 0, 1, 2, 3, 4], []⟩,
 ⟨some 10, .mov (.t 55), none, [5, 6, 0, 1, 2, 3, 4, 5, 6], []⟩])
(.seq (.reg [⟨some 57, .mov (.t 3), none, [], []⟩,
 ⟨some 58, .build [(.int .i64 0), (.int .i64 0)] [(0, 1, (.c (.int .i64 2))), (1, 1, (.c (.int .i64 2)))], none, [], []⟩,
 ⟨some 59, .call 16 [(.t 57), (.c (.int .i64 0)), (.c (.int .i64 9)), (.t 58)], none, [0, 1], []⟩,
 ⟨some 56, .mov (.t 59), none, [2], []⟩,
 ⟨some 60, .ext (.t 56) 0, none, [3], []⟩,
 ⟨some 61, .ext (.t 56) 1, none, [3], []⟩,
 ⟨some 11, .mov (.t 60), none, [4, 2, 0, 1, 2, 3, 4], []⟩,
 ⟨some 12, .mov (.t 61), none, [5, 6, 0, 1, 2, 3, 4, 5, 6], []⟩])
(.seq (.reg [⟨some 63, .mov (.t 3), none, [], []⟩,
 ⟨some 64, .build [(.int .i64 0), (.int .i64 0)] [(0, 1, (.c (.int .i64 10))), (1, 1, (.c (.int .i64 10)))], none, [], []⟩,
 ⟨some 65, .call 14 [(.t 63), (.c (.int .i64 0)), (.c (.int .i64 2)), (.t 64)], none, [0, 1], []⟩,
 ⟨some 62, .mov (.t 65), none, [2], []⟩,
 ⟨some 66, .ext (.t 62) 0, none, [3], []⟩,
 ⟨some 67, .ext (.t 62) 1, none, [3], []⟩,
 ⟨some 13, .mov (.t 66), none, [4, 2, 0, 1, 2, 3, 4], []⟩,
 ⟨some 14, .mov (.t 67), none, [5, 6, 0, 1, 2, 3, 4, 5, 6], []⟩])
(.seq (.reg [⟨some 69, .mov (.t 3), none, [], []⟩,
 ⟨some 70, .build [(.int .i64 0), (.int .i64 0)] [], none, [], []⟩,
 ⟨some 71, .call 9 [(.t 69), (.c (.int .i64 0)), (.c (.int .i64 0)), (.t 70)], none, [0, 1], []⟩,
 ⟨some 68, .mov (.t 71), none, [2], []⟩,
 ⟨some 72, .ext (.t 68) 0, none, [3], []⟩,
 ⟨some 73, .ext (.t 68) 1, none, [3], []⟩,
 ⟨some 15, .mov (.t 72), none, [4, 2, 0, 1, 2, 3, 4], []⟩,
 ⟨some 16, .mov (.t 73), none, [5, 6, 0, 1, 2, 3, 4, 5, 6], []⟩])
(.seq (.reg [⟨some 75, .mov (.t 1), none, [], []⟩,
 ⟨some 76, .mov (.t 2), none, [], []⟩,
 ⟨some 77, .mov (.t 2), none, [], []⟩,
 ⟨some 78, .build [(.int .u8 0), (.int .i64 0), (.int .i64 0), (.int .i64 0)] [(0, 1, (.c (.int .u8 3)))], none, [], []⟩,
 ⟨some 79, .bsl 4 [(.t 78)], none, [3], []⟩,
 ⟨some 80, .call 8 [(.t 75), (.t 76), (.t 77), (.t 79), (.c (.int .i64 0))], none, [0, 1, 2, 4], []⟩,
 ⟨some 74, .mov (.t 80), none, [5], []⟩,
 ⟨some 81, .ext (.t 74) 0, none, [6], []⟩,
 ⟨some 82, .ext (.t 74) 1, none, [6], []⟩,
 ⟨some 17, .mov (.t 81), none, [7, 5, 0, 1, 2, 3, 4, 5, 6, 7], []⟩,
 ⟨some 18, .mov (.t 82), none, [8, 9, 0, 1, 2, 3, 4, 5, 6, 7, 8, 9], []⟩])
(.seq (.reg [⟨some 83, .build [(.int .i64 0), (.int .i64 0)] [(0, 1, (.c (.int .i64 10))), (1, 1, (.c (.int .i64 10)))], none, [], []⟩,
 ⟨some 19, .alloc [(.int .i64 0), (.int .i64 0)], none, [], []⟩,
 ⟨none, .store 2 (.t 19) (.t 83), none, [1, 0, 0, 1], []⟩])
(.seq (.reg [⟨some 84, .build [(.int .i64 0), (.int .i64 0)] [(0, 1, (.c (.int .i64 7))), (1, 1, (.c (.int .i64 9)))], none, [], []⟩,
 ⟨some 20, .alloc [(.int .i64 0), (.int .i64 0)], none, [], []⟩,
 ⟨none, .store 2 (.t 20) (.t 84), none, [1, 0, 0, 1], []⟩])
(.seq (.reg [⟨some 85, .mov (.t 3), none, [], []⟩,
 ⟨some 86, .load 2 true (.t 19), none, [], []⟩,
 ⟨some 87, .build [(.int .i64 0), (.int .i64 0), (.int .i64 0)] [(1, 2, (.t 86))], none, [1], []⟩,
 ⟨some 88, .load 2 true (.t 20), none, [], []⟩,
 ⟨some 89, .build [(.int .i64 0), (.int .i64 0), (.int .i64 0)] [(0, 1, (.c (.int .i64 2))), (1, 2, (.t 88))], none, [3], []⟩,
 ⟨some 90, .load 2 true (.t 19), none, [], []⟩,
 ⟨some 91, .build [(.int .i64 0), (.int .i64 0), (.int .i64 0)] [(0, 1, (.c (.int .i64 8))), (1, 2, (.t 90))], none, [5], []⟩,
 ⟨some 92, .bsl 3 [(.t 87), (.t 89), (.t 91)], none, [2, 4, 6], []⟩,
 ⟨some 93, .call 15 [(.t 85), (.t 92)], none, [0, 7], []⟩,
 ⟨some 94, .mov (.t 93), none, [8, 8], []⟩,
 ⟨some 95, .mov (.t 4), some (94, true), [9], []⟩,
 ⟨some 96, .bin .eql (.t 95) (.c (.int .i64 0)), some (94, true), [10, 9], []⟩,
 ⟨some 97, .pick (.t 94) (.t 96) (.c (.bool false)), none, [9, 11], []⟩,
 ⟨some 98, .mov (.t 97), none, [12, 9], []⟩,
 ⟨some 99, .mov (.t 5), some (98, true), [13], []⟩,
 ⟨some 100, .build [(.int .i64 0), (.int .i64 0)] [(0, 1, (.c (.int .i64 1))), (1, 1, (.c (.int .i64 3)))], some (98, true), [13], []⟩,
 ⟨some 101, .build [(.int .i64 0), (.int .i64 0), (.int .i64 0)] [(0, 1, (.c (.int .i64 3))), (1, 2, (.t 100))], some (98, true), [15, 13], []⟩,
 ⟨some 102, .build [(.int .i64 0), (.int .i64 0)] [(0, 1, (.c (.int .i64 4))), (1, 1, (.c (.int .i64 4)))], some (98, true), [13], []⟩,
 ⟨some 103, .build [(.int .i64 0), (.int .i64 0), (.int .i64 0)] [(0, 1, (.c (.int .i64 8))), (1, 2, (.t 102))], some (98, true), [17, 13], []⟩,
 ⟨some 104, .bsl 3 [(.t 101), (.t 103)], some (98, true), [16, 18, 13], []⟩,
 ⟨some 105, .call 15 [(.t 99), (.t 104)], some (98, true), [14, 19, 13, 13], []⟩,
 ⟨some 106, .pick (.t 98) (.t 105) (.c (.bool false)), none, [13, 20], []⟩,
 ⟨some 107, .mov (.t 106), none, [21, 20], []⟩,
 ⟨some 108, .mov (.t 6), some (107, true), [22], []⟩,
 ⟨some 109, .bin .eql (.t 108) (.c (.int .i64 0)), some (107, true), [23, 22], []⟩,
 ⟨some 110, .pick (.t 107) (.t 109) (.c (.bool false)), none, [22, 24], []⟩,
 ⟨some 111, .mov (.t 110), none, [25, 22], []⟩,
 ⟨some 112, .mov (.t 7), some (111, true), [26], []⟩,
 ⟨some 113, .pick (.t 111) (.t 112) (.c (.bool false)), none, [26, 27], []⟩,
 ⟨some 114, .mov (.t 113), none, [28, 26], []⟩,
 ⟨some 115, .mov (.t 8), some (114, true), [29], []⟩,
 ⟨some 116, .bin .eql (.t 115) (.c (.int .i64 0)), some (114, true), [30, 29], []⟩,
 ⟨some 117, .pick (.t 114) (.t 116) (.c (.bool false)), none, [29, 31], []⟩,
 ⟨some 118, .mov (.t 117), none, [32, 29], []⟩,
 ⟨some 119, .mov (.t 9), some (118, true), [33], []⟩,
 ⟨some 120, .un .not (.t 119), some (118, true), [34, 33], []⟩,
 ⟨some 121, .pick (.t 118) (.t 120) (.c (.bool false)), none, [33, 35], []⟩,
 ⟨some 122, .mov (.t 121), none, [36, 33], []⟩,
 ⟨some 123, .mov (.t 10), some (122, true), [37], []⟩,
 ⟨some 124, .bin .eql (.t 123) (.c (.int .i64 0)), some (122, true), [38, 37], []⟩,
 ⟨some 125, .pick (.t 122) (.t 124) (.c (.bool false)), none, [37, 39], []⟩,
 ⟨some 126, .mov (.t 125), none, [40, 37], []⟩,
 ⟨some 127, .mov (.t 11), some (126, true), [41], []⟩,
 ⟨some 128, .bin .eql (.t 127) (.c (.int .i64 3)), some (126, true), [42, 41], []⟩,
 ⟨some 129, .pick (.t 126) (.t 128) (.c (.bool false)), none, [41, 43], []⟩,
 ⟨some 130, .mov (.t 129), none, [44, 41], []⟩,
 ⟨some 131, .mov (.t 12), some (130, true), [45], []⟩,
 ⟨some 132, .bin .eql (.t 131) (.c (.int .i64 0)), some (130, true), [46, 45], []⟩,
 ⟨some 133, .pick (.t 130) (.t 132) (.c (.bool false)), none, [45, 47], []⟩,
 ⟨some 134, .mov (.t 133), none, [48, 45], []⟩,
 ⟨some 135, .mov (.t 13), some (134, true), [49], []⟩,
 ⟨some 136, .load 2 true (.t 20), some (134, true), [49], []⟩,
 ⟨some 137, .build [(.int .i64 0), (.int .i64 0), (.int .i64 0)] [(0, 1, (.c (.int .i64 2))), (1, 2, (.t 136))], some (134, true), [51, 49], []⟩,
 ⟨some 138, .load 2 true (.t 19), some (134, true), [49], []⟩,
 ⟨some 139, .build [(.int .i64 0), (.int .i64 0), (.int .i64 0)] [(0, 1, (.c (.int .i64 8))), (1, 2, (.t 138))], some (134, true), [53, 49], []⟩,
 ⟨some 140, .bsl 3 [(.t 137), (.t 139)], some (134, true), [52, 54, 49], []⟩,
 ⟨some 141, .call 15 [(.t 135), (.t 140)], some (134, true), [50, 55, 49, 49], []⟩,
 ⟨some 142, .pick (.t 134) (.t 141) (.c (.bool false)), none, [49, 56], []⟩,
 ⟨some 143, .mov (.t 142), none, [57, 56], []⟩,
 ⟨some 144, .mov (.t 14), some (143, true), [58], []⟩,
 ⟨some 145, .bin .eql (.t 144) (.c (.int .i64 0)), some (143, true), [59, 58], []⟩,
 ⟨some 146, .pick (.t 143) (.t 145) (.c (.bool false)), none, [58, 60], []⟩,
 ⟨some 147, .mov (.t 146), none, [61, 58], []⟩,
 ⟨some 148, .mov (.t 16), some (147, true), [62], []⟩,
 ⟨some 149, .bin .eql (.t 148) (.c (.int .i64 2)), some (147, true), [63, 62], []⟩,
 ⟨some 150, .pick (.t 147) (.t 149) (.c (.bool false)), none, [62, 64], []⟩,
 ⟨some 151, .mov (.t 150), none, [65, 62], []⟩,
 ⟨some 152, .mov (.t 18), some (151, true), [66], []⟩,
 ⟨some 153, .bin .eql (.t 152) (.c (.int .i64 2)), some (151, true), [67, 66], []⟩,
 ⟨some 154, .pick (.t 151) (.t 153) (.c (.bool false)), none, [66, 68], []⟩,
 ⟨some 0, .mov (.t 154), none, [69, 66, 0, 1, 2, 3, 4, 5, 6, 7, 8, 9, 10, 11, 12, 13, 14, 15, 16, 17, 18, 19, 20, 21, 22, 23, 24, 25, 26, 27, 28, 29, 30, 31, 32, 33, 34, 35, 36, 37, 38, 39, 40, 41, 42, 43, 44, 45, 46, 47, 48, 49, 50, 51, 52, 53, 54, 55, 56, 57, 58, 59, 60, 61, 62, 63, 64, 65, 66, 67, 68, 69], []⟩])
(.ret)))))))))))))),
[.t 0], 155⟩
theorem v_liverylaw15_head_ok : compF Tryd.prog 7 = some v_liverylaw15_head := by kernel_rfl
def v_liverylaw15_below : VFn := ⟨.seq (.reg [⟨some 4, .mov (.c (.bool false)), none, [], []⟩])
(.seq (.reg [⟨some 9, .mov (.t 0), none, [], []⟩,
 ⟨some 10, .mov (.t 1), none, [], []⟩,
 ⟨some 11, .call 36 [(.t 9), (.t 10), (.c (.int .i64 (-1125899906842624)))], none, [0, 1], []⟩,
 ⟨some 8, .mov (.t 11), none, [2], []⟩,
 ⟨some 12, .ext (.t 8) 0, none, [3], []⟩,
 ⟨some 13, .ext (.t 8) 1, none, [3], []⟩,
 ⟨some 14, .ext (.t 8) 2, none, [3], []⟩,
 ⟨some 5, .mov (.t 12), none, [4, 2, 0, 1, 2, 3, 4], []⟩,
 ⟨some 6, .mov (.t 13), none, [5, 7, 0, 1, 2, 3, 4, 5, 7], []⟩,
 ⟨some 7, .mov (.t 14), none, [6, 8, 0, 1, 2, 3, 4, 5, 6, 7, 8], []⟩])
(.seq (.reg [⟨some 15, .mov (.t 6), none, [], []⟩,
 ⟨some 16, .mov (.t 15), none, [0], []⟩,
 ⟨some 17, .mov (.t 7), some (16, true), [1], []⟩,
 ⟨some 18, .bin .eql (.t 17) (.c (.int .i64 0)), some (16, true), [2, 1], []⟩,
 ⟨some 19, .pick (.t 16) (.t 18) (.c (.bool false)), none, [1, 3], []⟩,
 ⟨some 4, .mov (.t 19), none, [4, 1, 0, 1, 2, 3, 4], []⟩])
(.ret))),
[.t 4], 20⟩
theorem v_liverylaw15_below_ok : compF Tryd.prog 17 = some v_liverylaw15_below := by kernel_rfl
def v_liverylaw15_box : VFn := ⟨.seq (.reg [⟨some 8, .mov (.c (.sl [] .full)), none, [], []⟩])
(.seq (.reg [⟨some 12, .mov (.t 0), none, [], []⟩,
 ⟨some 13, .mov (.t 1), none, [], []⟩,
 ⟨some 14, .mov (.t 2), none, [], []⟩,
 ⟨some 15, .mov (.t 3), none, [], []⟩,
 ⟨some 16, .build [(.int .i64 0), (.int .i64 0)] [(0, 1, (.t 14)), (1, 1, (.t 15))], none, [2, 3], []⟩,
 ⟨some 17, .call 40 [(.t 12), (.t 13), (.t 16)], none, [0, 1, 4], []⟩,
 ⟨some 11, .mov (.t 17), none, [5], []⟩,
 ⟨some 18, .ext (.t 11) 0, none, [6], []⟩,
 ⟨some 19, .ext (.t 11) 1, none, [6], []⟩,
 ⟨some 9, .mov (.t 18), none, [7, 5, 0, 1, 2, 3, 4, 5, 6, 7], []⟩,
 ⟨some 10, .mov (.t 19), none, [8, 9, 0, 1, 2, 3, 4, 5, 6, 7, 8, 9], []⟩])
(.seq (.reg [⟨some 20, .mov (.t 9), none, [], []⟩,
 ⟨some 8, .mov (.t 20), none, [0, 0], []⟩])
(.ret))),
[.t 8], 21⟩
theorem v_liverylaw15_box_ok : compF Tryd.prog 20 = some v_liverylaw15_box := by kernel_rfl
end Go.Proofs.YtglekfgoadehbaaDoor.V
end
section
set_option linter.unusedSimpArgs false
set_option linter.unusedVariables false
/- liverylaw15: box, great, below, head. -/
namespace Go.Proofs.YtglekfgoadehbaaDoor.V
open Go Go.Proofs
set_option maxRecDepth 100000
set_option maxHeartbeats 4000000
theorem box_15 (a b m c : Int) : VPure Tryd.prog 20 [.int .i64 a, .int .i64 b, .int .i64 m, .int .i64 c] (.sl ((boxF2 a b ⟨m, c⟩).1.map Seg.a) .no) := by
  refine VPure.of v_liverylaw15_box_ok (Nat.le_of_ble_eq_true rfl) (fun Z st => ?_)
  have hB := Box_2 a b m c
  obtain ⟨w, hw⟩ : ∃ w, boxF2 a b ⟨m, c⟩ = w := ⟨_, rfl⟩
  rw [hw] at hB ⊢
  clear hw
  simp only [num] at hB
  simp only [v_liverylaw15_box, ↓vD, vU, ↓vMd, vMu, vZ, seval, k_app, k_slc1]
  (repeat' (first | (simp (maxDischargeDepth := 16) only [*, vX, ↓vD, vU, ↓vMd, vMu, vZ, seval]) | (simp (disch := first | assumption | omega | rfl | exact fun _ => rfl) only [vP]) | ((with_reducible first | apply gsnd | apply csnd | apply gsd | apply csd | apply gsn | apply csn | apply gs | apply cs_) <;> intro _) | (with_reducible first | refine callH_use (hB) ?_ | refine pureQ_use (hB) ?_)))
def cH : List Seg := [⟨0, ⟨10, 10⟩⟩]
def lH : List Seg := [⟨2, ⟨3, 1⟩⟩, ⟨8, ⟨0, 0⟩⟩]
def fH : List Seg := [⟨0, ⟨10, 10⟩⟩, ⟨2, ⟨7, 9⟩⟩, ⟨8, ⟨10, 10⟩⟩]
def gH : List Seg := [⟨3, ⟨1, 3⟩⟩, ⟨8, ⟨4, 4⟩⟩]
def tH : List Seg := [⟨2, ⟨7, 9⟩⟩, ⟨8, ⟨10, 10⟩⟩]
def p0 : Pol := ⟨0, ⟨0, 0⟩, 0⟩
def p1 : Pol := ⟨1, ⟨4, 4⟩, 0⟩
def p3 : Pol := ⟨3, ⟨0, 0⟩, 0⟩
theorem h15a : boxF2 2 8 ⟨3, 1⟩ = (lH, 0) := by decide +kernel
theorem h15b : freeF cH lH lH [p0] 0 = (fH, 0) := by decide +kernel
theorem h15c : freeF cH lH lH [p1] 3 = (gH, 0) := by decide +kernel
theorem h15d : freeF cH lH lH [p3] 0 = ([], 2) := by decide +kernel
theorem h15e : fitsF fH 1 3 ⟨7, 9⟩ = (true, 0) := by decide +kernel
theorem h15f : fitsF fH 1 2 ⟨8, 1⟩ = (false, 0) := by decide +kernel
theorem h15g : mostF fH 0 9 ⟨2, 2⟩ = (3, 0) := by decide +kernel
theorem h15h : takeF fH 0 2 ⟨10, 10⟩ = (tH, 0) := by unfold takeF rangeC; rw [add_do]; decide +kernel
theorem h15i : fitsF fH 0 0 ⟨0, 0⟩ = (false, 2) := by decide +kernel
theorem head_15 : VPure Tryd.prog 7 [] (.bool true) := by
  have b1 := box_15 2 8 3 1
  have a1 := Free_v cH lH lH (by simp [cH, lH]) .full .no .no [p0] (by simp) (by simp [p0]) .full 0
  have a2 := Free_v cH lH lH (by simp [cH, lH]) .full .no .no [p1] (by simp) (by simp [p1]) .full 3
  have a3 := Fits_c fH (by simp [fH]) 1 3 ⟨7, 9⟩ .no
  have a4 := Fits_c fH (by simp [fH]) 1 2 ⟨8, 1⟩ .no
  have a5 := Most_c fH (by simp [fH]) 0 9 ⟨2, 2⟩ .no
  have a6 := Take_c fH (by simp [fH]) 0 2 ⟨10, 10⟩ .no
  have a7 := Fits_c fH (by simp [fH]) 0 0 ⟨0, 0⟩ .no
  have a8 := Free_v cH lH lH (by simp [cH, lH]) .full .no .no [p3] (by simp) (by simp [p3]) .full 0
  have s1 := Same_2 fH fH (by simp [fH]) .no .full
  have s2 := Same_2 gH gH (by simp [gH]) .no .full
  have s3 := Same_2 tH tH (by simp [tH]) .no .full
  have q1 : sameF fH fH = true := by decide
  have q2 : sameF gH gH = true := by decide
  have q3 : sameF tH tH = true := by decide
  rw [q1] at s1
  rw [q2] at s2
  rw [q3] at s3
  clear q1 q2 q3
  rw [h15a] at b1
  rw [h15b] at a1
  rw [h15c] at a2
  rw [h15e] at a3
  rw [h15f] at a4
  rw [h15g] at a5
  rw [h15h] at a6
  rw [h15i] at a7
  rw [h15d] at a8
  simp only [cH, lH, fH, gH, tH, p0, p1, p3, List.map_cons, List.map_nil, Seg.a, Vec.a, Pol.a, num] at b1 a1 a2 a3 a4 a5 a6 a7 a8 s1 s2 s3
  refine VPure.of v_liverylaw15_head_ok (Nat.le_of_ble_eq_true rfl) (fun Z st => ?_)
  simp only [v_liverylaw15_head, ↓vD, vU, ↓vMd, vMu, vZ, seval, k_app, k_slc1]
  (repeat' (first | (simp (maxDischargeDepth := 16) only [*, vX, ↓vD, vU, ↓vMd, vMu, vZ, seval]) | (simp (disch := first | assumption | omega | rfl | exact fun _ => rfl) only [vP]) | ((with_reducible first | apply gsnd | apply csnd | apply gsd | apply csd | apply gsn | apply csn | apply gs | apply cs_) <;> intro _) | (with_reducible refine objQ_i (fun _ _ => ?_); repeat with_reducible refine imp_i (fun _ => ?_)) | (with_reducible first | refine callH_use (b1) ?_ | refine pureQ_use (b1) ?_) | (with_reducible first | refine callH_use (a1) ?_ | refine pureQ_use (a1) ?_) | (with_reducible first | refine callH_use (a2) ?_ | refine pureQ_use (a2) ?_) | (with_reducible first | refine callH_use (a3) ?_ | refine pureQ_use (a3) ?_) | (with_reducible first | refine callH_use (a4) ?_ | refine pureQ_use (a4) ?_) | (with_reducible first | refine callH_use (a5) ?_ | refine pureQ_use (a5) ?_) | (with_reducible first | refine callH_use (a6) ?_ | refine pureQ_use (a6) ?_) | (with_reducible first | refine callH_use (a7) ?_ | refine pureQ_use (a7) ?_) | (with_reducible first | refine callH_use (a8) ?_ | refine pureQ_use (a8) ?_) | (with_reducible first | refine callH_use (s1) ?_ | refine pureQ_use (s1) ?_) | (with_reducible first | refine callH_use (s2) ?_ | refine pureQ_use (s2) ?_) | (with_reducible first | refine callH_use (s3) ?_ | refine pureQ_use (s3) ?_)))
end Go.Proofs.YtglekfgoadehbaaDoor.V
end
section
set_option linter.unusedSimpArgs false
set_option linter.unusedVariables false
/- Lengths. -/
namespace Go.Proofs.YtglekfgoadehbaaDoor.V
open Go Go.Proofs
theorem rangeR_len (f : List Seg) (a b : Int) (v : Vec) : (rangeR f a b v).1.length ≤ f.length + 2 := by
  unfold rangeR
  split
  · split
    · have := doR_len 0 f (boxF2 a b v).1; have := boxF2_len a b v; omega
    · simp
  · simp
theorem take_len (f : List Seg) (n d : Int) (v : Vec) : (takeF f n d v).1.length ≤ f.length + 2 := by
  unfold takeF
  split
  · rw [range_do]; exact rangeR_len _ _ _ _
  · simp
end Go.Proofs.YtglekfgoadehbaaDoor.V
end
section
set_option linter.unusedSimpArgs false
set_option linter.unusedVariables false
/- FitTakes, in plain Lean. -/
namespace Go.Proofs.YtglekfgoadehbaaDoor.V
open Go Go.Proofs
theorem win_mk {f : List Seg} {n d : Int} {v w : Vec} (h : winE f n d v = 0) (hw : mayV w = true) {g : List Seg} (hg : mayF g = true) : winE g n d w = 0 := by
  obtain ⟨_, d1, d2, hf, _, _, _⟩ := win_ok h
  unfold winE
  rw [hg, if_pos rfl, if_neg (by omega), hf, hw]; rfl
theorem most_ok {f : List Seg} {n d : Int} {u : Vec} (h : (mostF f n d u).2 = 0) : winE f n d u = 0 ∧ 1 ≤ u.m ∧ 1 ≤ u.c ∧ (mostF f n d u).1 = unitsV (leastF minV f n (n + d)) u := by
  unfold mostF at h ⊢
  by_cases h1 : mayF f = true ∧ (u.m < 1 ∨ u.c < 1)
  · rw [if_pos h1] at h; cases h
  · rw [if_neg h1] at h ⊢
    by_cases h2 : winE f n d u = 0
    · rw [if_pos h2] at h ⊢
      have hm := (win_ok h2).1
      have hu : ¬ (u.m < 1 ∨ u.c < 1) := fun h => h1 ⟨hm, h⟩
      refine ⟨h2, by omega, by omega, ?_⟩
      unfold unitsE at h ⊢
      rw [if_neg hu] at h ⊢
      split at h
      · rename_i h3; rw [if_pos h3]
      · cases h
    · rw [if_neg h2] at h; exact absurd h h2
theorem most_law {f : List Seg} {n d : Int} {u : Vec} (h : (mostF f n d u).2 = 0) (hu : u.m ≤ 1000 ∧ u.c ≤ 1000) (hk : (mostF f n d u).1 ≤ 549755813888) :
    0 ≤ (mostF f n d u).1 ∧ (fitsF f n d ⟨(mostF f n d u).1 * u.m, (mostF f n d u).1 * u.c⟩).2 = 0 ∧ (fitsF f n d ⟨((mostF f n d u).1 + 1) * u.m, ((mostF f n d u).1 + 1) * u.c⟩).2 = 0 ∧
      ((fitsF f n d ⟨(mostF f n d u).1 * u.m, (mostF f n d u).1 * u.c⟩).1 = true ∨ (mostF f n d u).1 = 0) ∧ (fitsF f n d ⟨((mostF f n d u).1 + 1) * u.m, ((mostF f n d u).1 + 1) * u.c⟩).1 = false := by
  obtain ⟨hw, u1, u2, he⟩ := most_ok h
  have hn := unitsV_nn (v := leastF minV f n (n + d)) u1 u2
  rw [← he] at hn
  obtain ⟨k, hk'⟩ : ∃ k, (mostF f n d u).1 = k := ⟨_, rfl⟩
  rw [hk'] at hk hn he ⊢
  have hm : ∀ j, 0 ≤ j → j ≤ 549755813889 → mayV ⟨j * u.m, j * u.c⟩ = true := by
    intro j h0 h1
    have a1 : 0 ≤ j * u.m := Int.mul_nonneg h0 (by omega)
    have a2 : 0 ≤ j * u.c := Int.mul_nonneg h0 (by omega)
    have a3 : j * u.m ≤ 549755813889 * 1000 := Int.mul_le_mul h1 hu.1 (by omega) (by omega)
    have a4 : j * u.c ≤ 549755813889 * 1000 := Int.mul_le_mul h1 hu.2 (by omega) (by omega)
    simp only [mayV, inR, Bool.and_eq_true, decide_eq_true_eq]
    omega
  have w1 := win_mk hw (hm k hn (by omega)) (win_ok hw).1
  have w2 := win_mk hw (hm (k + 1) (by omega) (by omega)) (win_ok hw).1
  unfold fitsF
  rw [if_pos w1, if_pos w2]
  refine ⟨hn, rfl, rfl, ?_, ?_⟩
  · by_cases h0 : k = 0
    · exact .inr h0
    · exact .inl ((unitsV_iff u1 u2 (k := k) (by omega)).1 (by omega))
  · have := (unitsV_iff (v := leastF minV f n (n + d)) u1 u2 (k := k + 1) (by omega))
    cases hb : leW (mulV (k + 1) u) (leastF minV f n (n + d)) with
    | false => exact hb
    | true => have := this.2 hb; omega
theorem range_at {f : List Seg} {a b : Int} {v : Vec} (h : (rangeR f a b v).2 = 0) : ∀ t, a ≤ t → t < b → (atF (rangeR f a b v).1 t).m = (atF f t).m + v.m ∧ (atF (rangeR f a b v).1 t).c = (atF f t).c + v.c := by
  intro t h1 h2
  have hf := (rangeR_law f a b v h).1
  have e0 : rangeR f a b v = if (boxF2 a b v).2 = 0 then doR 0 f (boxF2 a b v).1 else ([], (boxF2 a b v).2) := by unfold rangeR; rw [hf]; rfl
  by_cases hb0 : (boxF2 a b v).2 = 0
  case neg => rw [e0, if_neg hb0] at h; exact absurd h hb0
  rw [if_pos hb0] at e0
  obtain ⟨hab, ia, ib, iv⟩ := box_law a b v hb0
  obtain ⟨_, mb, vb⟩ := box_spec a b v hab ia ib iv
  rw [e0] at h
  obtain ⟨_, _, mr, vr⟩ := doR_may h
  rw [e0]
  have := vr t
  rw [vb t, boxV, if_pos ⟨h1, h2⟩, add_val _ _ (may_at hf t) iv] at this
  rw [← (told_ok this).1]
  exact ⟨rfl, rfl⟩
theorem take_law {f : List Seg} {n d : Int} {v : Vec} (h : (takeF f n d v).2 = 0) :
    winE f n d v = 0 ∧ takeF (takeF f n d v).1 n d ⟨-v.m, -v.c⟩ = (f, 0) ∧ (fitsF f n d v).2 = 0 ∧ (fitsF (takeF f n d v).1 n d v0).2 = 0 ∧ (fitsF f n d v).1 = (fitsF (takeF f n d v).1 n d v0).1 := by
  by_cases hw : winE f n d v = 0
  case neg => unfold takeF at h; rw [if_neg hw] at h; exact absurd h hw
  have e0 : takeF f n d v = rangeR f n (n + d) ⟨-v.m, -v.c⟩ := by unfold takeF; rw [if_pos hw, range_do]
  rw [e0] at h ⊢
  obtain ⟨hf, d1, d2, _, hv, _, _⟩ := win_ok hw
  obtain ⟨_, hr, hv2, _, _, hb⟩ := rangeR_law _ _ _ _ h
  have hat := range_at h
  obtain ⟨t, ht⟩ : ∃ t, (rangeR f n (n + d) ⟨-v.m, -v.c⟩).1 = t := ⟨_, rfl⟩
  rw [ht] at hr hb hat ⊢
  simp only at hb hat
  have w2 := win_mk hw hv2 hr
  have w3 := win_mk hw (show mayV v0 = true from rfl) hr
  have b2 : takeF t n d ⟨-v.m, -v.c⟩ = (f, 0) := by
    unfold takeF; rw [if_pos w2, range_do]
    have hv3 := (mayV_iff v).1 hv
    rw [wr_id (by omega) (by omega), wr_id (by omega) (by omega)] at hb
    exact hb
  refine ⟨hw, b2, by unfold fitsF; rw [if_pos hw], by unfold fitsF; rw [if_pos w3], ?_⟩
  unfold fitsF
  rw [if_pos hw, if_pos w3]
  simp only
  rw [← into_low hf n d d1 v, ← into_low hr n d d1 v0, Bool.eq_iff_iff, into_iff, into_iff]
  constructor
  · intro h s h1 h2
    have := h s h1 h2
    obtain ⟨h3, h4⟩ := hat s h1 h2
    have h7 : (atF t s).m = (atF f s).m + -v.m := h3
    have h8 : (atF t s).c = (atF f s).c + -v.c := h4
    unfold leW at this ⊢
    rw [Bool.and_eq_true, decide_eq_true_eq, decide_eq_true_eq] at this ⊢
    have z1 : v0.m = 0 := rfl
    have z2 : v0.c = 0 := rfl
    obtain ⟨h5, h6⟩ := this
    exact ⟨by omega, by omega⟩
  · intro h s h1 h2
    have := h s h1 h2
    obtain ⟨h3, h4⟩ := hat s h1 h2
    have h7 : (atF t s).m = (atF f s).m + -v.m := h3
    have h8 : (atF t s).c = (atF f s).c + -v.c := h4
    unfold leW at this ⊢
    rw [Bool.and_eq_true, decide_eq_true_eq, decide_eq_true_eq] at this ⊢
    have z1 : v0.m = 0 := rfl
    have z2 : v0.c = 0 := rfl
    obtain ⟨h5, h6⟩ := this
    exact ⟨by omega, by omega⟩
theorem most_0 {f : List Seg} {n d : Int} {u : Vec} (h : ¬ (mostF f n d u).2 = 0) : (mostF f n d u).1 = 0 := by
  unfold mostF at h ⊢
  by_cases h1 : mayF f = true ∧ (u.m < 1 ∨ u.c < 1)
  · rw [if_pos h1]
  · rw [if_neg h1] at h ⊢
    by_cases h2 : winE f n d u = 0
    · rw [if_pos h2] at h ⊢
      unfold unitsE at h ⊢
      by_cases h3 : u.m < 1 ∨ u.c < 1
      · rw [if_pos h3]
      · rw [if_neg h3] at h ⊢
        by_cases h4 : (mayV (leastF minV f n (n + d)) && mayV u) = true
        · rw [if_pos h4] at h; exact absurd rfl h
        · rw [if_neg h4]
    · rw [if_neg h2]
end Go.Proofs.YtglekfgoadehbaaDoor.V
end
section
set_option linter.unusedSimpArgs false
set_option linter.unusedVariables false
/- FitUsed and FitLess, in plain Lean. -/
namespace Go.Proofs.YtglekfgoadehbaaDoor.V
open Go Go.Proofs
theorem bound_may {c l o : List Seg} (hc : mayF c = true) (hl : mayF l = true) (ho : mayF o = true) {a : Int} (ha : inR a = true) {p : Pol} (hp : p.k = 1 → mayV p.cap = true) (h : (boundF c l o a p).2 = 0) : mayF (boundF c l o a p).1 = true := by
  unfold boundF at h ⊢
  by_cases k0 : p.k = 0
  · rw [if_pos k0] at h ⊢; exact (sub_ok hc hl h).1
  · rw [if_neg k0] at h ⊢
    by_cases k1 : p.k = 1
    · rw [if_pos k1] at h ⊢; exact (sub_ok (always_law (hp k1) ha).1 ho h).1
    · rw [if_neg k1]; exact (always_law fullV_may ha).1
theorem all_ok {c l o : List Seg} (hc : mayF c = true) (hl : mayF l = true) (ho : mayF o = true) {a : Int} (ha : inR a = true) : ∀ (ps : List Pol) (f : List Seg), (∀ p ∈ ps, p.k = 1 → mayV p.cap = true) → mayF f = true → ((allF c l o a ps f).2 = 0 ↔ ∀ p ∈ ps, (boundF c l o a p).2 = 0)
  | [], f, _, _ => by simp [allF]
  | p :: r, f, hp, hf => by
    unfold allF
    by_cases hb : (boundF c l o a p).2 = 0
    · have hm := bound_may hc hl ho ha (hp p (by simp)) hb
      obtain ⟨m1, m2, _⟩ := min_ok f _ hf hm
      rw [if_pos hb, if_pos m1, all_ok hc hl ho ha r _ (fun q hq => hp q (by simp [hq])) m2]
      simp [hb]
    · rw [if_neg hb]
      simp [hb]
theorem all_no {c l o : List Seg} {a : Int} : ∀ (ps : List Pol) (f : List Seg), ¬ (allF c l o a ps f).2 = 0 → (allF c l o a ps f).1 = []
  | [], f, h => by simp [allF] at h
  | p :: r, f, h => by
    unfold allF at h ⊢
    split
    · rename_i h1
      rw [if_pos h1] at h
      split
      · rename_i h2; rw [if_pos h2] at h; exact all_no r _ h
      · rfl
    · rfl
theorem free_no {c l o : List Seg} {ps : List Pol} {a : Int} (h : ¬ (freeF c l o ps a).2 = 0) : (freeF c l o ps a).1 = [] := by
  unfold freeF at h ⊢
  split
  · rfl
  · rename_i h1; rw [if_neg h1] at h; exact all_no _ _ h
theorem bound_ahead {c l o : List Seg} (hc : mayF c = true) (hl : mayF l = true) (ho : mayF o = true) {a : Int} (ha : inR a = true) {p : Pol} (hp : p.k = 1 → mayV p.cap = true) (h : (boundF c l o a p).2 = 0) {s : Int} (hs : s < a) (zc : atF c s = v0) (zl : atF l s = v0) (zo : atF o s = v0) : atF (boundF c l o a p).1 s = v0 := by
  have z : ∀ {x : Vec}, x.m = 0 → x.c = 0 → x = v0 := fun {x} h1 h2 => by cases x; simp only at h1 h2; subst h1 h2; rfl
  have z1 : v0.m = 0 := rfl
  have z2 : v0.c = 0 := rfl
  unfold boundF at h ⊢
  by_cases k0 : p.k = 0
  · rw [if_pos k0] at h ⊢
    have := (sub_ok hc hl h).2 s
    rw [zc, zl] at this
    exact z (by omega) (by omega)
  · rw [if_neg k0] at h ⊢
    by_cases k1 : p.k = 1
    · rw [if_pos k1] at h ⊢
      obtain ⟨a1, a2⟩ := always_law (hp k1) ha
      have := (sub_ok a1 ho h).2 s
      rw [zo, a2 s, if_pos hs] at this
      exact z (by omega) (by omega)
    · rw [if_neg k1]
      rw [(always_law fullV_may ha).2 s, if_pos hs]
theorem all_ahead {c l o : List Seg} (hc : mayF c = true) (hl : mayF l = true) (ho : mayF o = true) {a : Int} (ha : inR a = true) {s : Int} (hs : s < a) (zc : atF c s = v0) (zl : atF l s = v0) (zo : atF o s = v0) : ∀ (ps : List Pol) (f : List Seg), (∀ p ∈ ps, p.k = 1 → mayV p.cap = true) → mayF f = true → atF f s = v0 → (allF c l o a ps f).2 = 0 → atF (allF c l o a ps f).1 s = v0
  | [], f, _, _, h, _ => h
  | p :: r, f, hp, hf, h0, h => by
    have hb : (boundF c l o a p).2 = 0 := (all_ok hc hl ho ha (p :: r) f hp hf).1 h p (by simp)
    have hm := bound_may hc hl ho ha (hp p (by simp)) hb
    obtain ⟨m1, m2, m3⟩ := min_ok f _ hf hm
    have e : allF c l o a (p :: r) f = allF c l o a r (doR 2 f (boundF c l o a p).1).1 := by rw [allF, if_pos hb, if_pos m1]
    rw [e] at h ⊢
    refine all_ahead hc hl ho ha hs zc zl zo r _ (fun q hq => hp q (by simp [hq])) m2 ?_ h
    rw [m3 s, h0, bound_ahead hc hl ho ha (hp p (by simp)) hb hs zc zl zo]
    rfl
theorem checkP_ok {c l o : List Seg} {ps : List Pol} {a : Int} : checkP c l o ps a = 0 ↔ (mayF c = true ∧ mayF l = true ∧ mayF o = true) ∧ farF a = false ∧ ∀ p ∈ ps, p.k ≤ 2 ∧ (p.k = 1 → mayV p.cap = true) := by
  unfold checkP
  by_cases hm : (mayF c && mayF l && mayF o) = true
  · rw [if_pos hm]
    simp only [Bool.and_eq_true] at hm
    obtain ⟨⟨h1, h2⟩, h3⟩ := hm
    by_cases hk : ps.any (fun p => decide (2 < p.k)) = true
    · rw [if_pos hk]
      rw [List.any_eq_true] at hk
      obtain ⟨p, hp, h⟩ := hk
      simp only [decide_eq_true_eq] at h
      constructor
      · intro h; cases h
      · rintro ⟨_, _, h5⟩; have := (h5 p hp).1; omega
    · rw [if_neg hk]
      have hk' : ∀ p ∈ ps, p.k ≤ 2 := fun p hp => by
        refine Int.not_lt.1 fun h => hk ?_
        rw [List.any_eq_true]; exact ⟨p, hp, by simpa using h⟩
      by_cases hf : (farF a || ps.any oddP) = true
      · rw [if_pos hf]
        constructor
        · intro h; cases h
        · rintro ⟨_, h4, h5⟩
          rw [h4, Bool.false_or, List.any_eq_true] at hf
          obtain ⟨p, hp, h⟩ := hf
          unfold oddP at h
          rw [Bool.and_eq_true, decide_eq_true_eq] at h
          rw [(h5 p hp).2 h.1] at h
          exact absurd h.2 (by decide)
      · rw [if_neg hf]
        have hf' : (farF a || ps.any oddP) = false := by cases h : (farF a || ps.any oddP) <;> simp_all
        rw [Bool.or_eq_false_iff] at hf'
        refine ⟨fun _ => ⟨⟨h1, h2, h3⟩, hf'.1, fun p hp => ⟨hk' p hp, fun k1 => ?_⟩⟩, fun _ => rfl⟩
        cases hv : mayV p.cap with
        | true => rfl
        | false =>
          have : ps.any oddP = true := by
            rw [List.any_eq_true]; exact ⟨p, hp, by unfold oddP; rw [hv, k1]; rfl⟩
          rw [hf'.2] at this; cases this
  · rw [if_neg hm]
    constructor
    · intro h; cases h
    · rintro ⟨⟨h1, h2, h3⟩, _⟩; exact absurd (by rw [h1, h2, h3]; rfl) hm
theorem far_in {a : Int} (h : farF a = false) : inR a = true := by
  unfold farF at h
  rw [Bool.or_eq_false_iff, decide_eq_false_iff_not, decide_eq_false_iff_not] at h
  rw [inR_iff]; omega
theorem free_law {c l o : List Seg} {ps : List Pol} {a : Int} (h : (freeF c l o ps a).2 = 0) :
    checkP c l o ps a = 0 ∧ mayF (freeF c l o ps a).1 = true ∧ (∀ v s, mayV v = true → a ≤ s → (leW v (atF (freeF c l o ps a).1 s) = true ↔ ∀ p ∈ ps, leP (atF c s) (atF l s) (atF o s) v p)) ∧ ∀ s, s < a → atF (freeF c l o ps a).1 s = v0 := by
  by_cases h0 : checkP c l o ps a = 0
  case neg => unfold freeF at h; rw [if_pos h0] at h; exact absurd h h0
  have e : freeF c l o ps a = allF (behindF c a) (behindF l a) (behindF o a) a ps (alwaysF fullV a) := by unfold freeF; rw [if_neg (by simpa using h0)]
  obtain ⟨⟨mc, ml, mo⟩, hfar, hp⟩ := checkP_ok.1 h0
  have ha := far_in hfar
  obtain ⟨c1, c2⟩ := behind_law mc ha
  obtain ⟨l1, l2⟩ := behind_law ml ha
  obtain ⟨o1, o2⟩ := behind_law mo ha
  obtain ⟨a1, a2⟩ := always_law fullV_may ha
  rw [e] at h ⊢
  refine ⟨h0, (all_law c1 l1 o1 ha (v := v0) rfl ps _ (fun p hq => (hp p hq).2) a1 h).1, fun v s hv hs => ?_, fun s hs => ?_⟩
  · rw [(all_law c1 l1 o1 ha hv ps _ (fun p hq => (hp p hq).2) a1 h).2 s hs, a2 s, if_neg (by omega), c2 s, if_neg (by omega), l2 s, if_neg (by omega), o2 s, if_neg (by omega), may_le_full hv]
    simp
  · exact all_ahead c1 l1 o1 ha hs (by rw [c2 s, if_pos hs]) (by rw [l2 s, if_pos hs]) (by rw [o2 s, if_pos hs]) ps _ (fun p hq => (hp p hq).2) a1 (by rw [a2 s, if_pos hs]) h
theorem le_anti {x y : Vec} (h1 : leW x y = true) (h2 : leW y x = true) : x = y := by
  unfold leW at h1 h2
  rw [Bool.and_eq_true, decide_eq_true_eq, decide_eq_true_eq] at h1 h2
  cases x; cases y; simp only at h1 h2; congr 1 <;> omega
theorem le_self (x : Vec) : leW x x = true := by unfold leW; simp
theorem free_turn {c l o : List Seg} {ps : List Pol} {a : Int} (h : (freeF c l o ps a).2 = 0) : freeF c l o ps.reverse a = freeF c l o ps a := by
  obtain ⟨h0, m1, v1, z1⟩ := free_law h
  obtain ⟨⟨mc, ml, mo⟩, hfar, hp⟩ := checkP_ok.1 h0
  have ha := far_in hfar
  have h0' : checkP c l o ps.reverse a = 0 := checkP_ok.2 ⟨⟨mc, ml, mo⟩, hfar, fun p hq => hp p (List.mem_reverse.1 hq)⟩
  have h' : (freeF c l o ps.reverse a).2 = 0 := by
    unfold freeF at h ⊢
    rw [if_neg (by simpa using h0)] at h
    rw [if_neg (by simpa using h0')]
    have k1 := (all_ok (behind_law mc ha).1 (behind_law ml ha).1 (behind_law mo ha).1 ha ps _ (fun p hq => (hp p hq).2) (always_law fullV_may ha).1).1 h
    exact (all_ok (behind_law mc ha).1 (behind_law ml ha).1 (behind_law mo ha).1 ha ps.reverse _ (fun p hq => (hp p (List.mem_reverse.1 hq)).2) (always_law fullV_may ha).1).2 (fun p hq => k1 p (List.mem_reverse.1 hq))
  obtain ⟨_, m2, v2, z2⟩ := free_law h'
  have e1 : (freeF c l o ps.reverse a).1 = (freeF c l o ps a).1 := may_ext m2 m1 fun s => by
    by_cases hs : s < a
    · rw [z1 s hs, z2 s hs]
    · refine le_anti ?_ ?_
      · rw [v1 _ s (may_at m2 s) (by omega)]
        exact fun p hq => (v2 _ s (may_at m2 s) (by omega)).1 (le_self _) p (List.mem_reverse.2 hq)
      · rw [v2 _ s (may_at m1 s) (by omega)]
        exact fun p hq => (v1 _ s (may_at m1 s) (by omega)).1 (le_self _) p (List.mem_reverse.1 hq)
  exact Prod.ext e1 (h'.trans h.symm)
theorem free_less {c l o c' l' : List Seg} {ps qs : List Pol} {a : Int} (h : (freeF c l o ps a).2 = 0) (h' : (freeF c' l' o qs a).2 = 0)
    (hle : ∀ s v, (∀ p ∈ qs, leP (atF c' s) (atF l' s) (atF o s) v p) → ∀ p ∈ ps, leP (atF c s) (atF l s) (atF o s) v p) : leR (freeF c' l' o qs a).1 (freeF c l o ps a).1 (-1125899906842624) = (0, true, 0) := by
  obtain ⟨_, m1, v1, z1⟩ := free_law h
  obtain ⟨_, m2, v2, z2⟩ := free_law h'
  refine leR_yes _ _ _ m2 m1 fun s _ => ?_
  by_cases hs : s < a
  · rw [z1 s hs, z2 s hs]; rfl
  · have : leW (atF (freeF c' l' o qs a).1 s) (atF (freeF c l o ps a).1 s) = true := by
      rw [v1 _ s (may_at m2 s) (by omega)]
      exact hle s _ ((v2 _ s (may_at m2 s) (by omega)).1 (le_self _))
    exact this
theorem free_more {c l o : List Seg} {ps : List Pol} {p : Pol} {a : Int} (h : (freeF c l o ps a).2 = 0) (h' : (freeF c l o (ps ++ [p]) a).2 = 0) : leR (freeF c l o (ps ++ [p]) a).1 (freeF c l o ps a).1 (-1125899906842624) = (0, true, 0) :=
  free_less h h' fun s v k q hq => k q (by simp [hq])
theorem free_load {c l o m : List Seg} {ps : List Pol} {a : Int} (h : (freeF c l o ps a).2 = 0) (hm : (doR 3 l m).2 = 0) (h' : (freeF c (doR 3 l m).1 o ps a).2 = 0) : leR (freeF c (doR 3 l m).1 o ps a).1 (freeF c l o ps a).1 (-1125899906842624) = (0, true, 0) :=
  free_less h h' fun s v k p hp => by
    obtain ⟨ml, mm, _, _⟩ := doR_may hm
    have e := (max_ok l m ml mm).2.2 s
    obtain ⟨k1, k2⟩ := k p hp
    rw [e] at k1
    have e1 : (maxV (atF l s) (atF m s)).m = max (atF l s).m (atF m s).m := rfl
    have e2 : (maxV (atF l s) (atF m s)).c = max (atF l s).c (atF m s).c := rfl
    exact ⟨fun hk => by have := k1 hk; omega, k2⟩
theorem free_cap {c l o m : List Seg} {ps : List Pol} {a : Int} (h : (freeF c l o ps a).2 = 0) (hm : (doR 2 c m).2 = 0) (h' : (freeF (doR 2 c m).1 l o ps a).2 = 0) : leR (freeF (doR 2 c m).1 l o ps a).1 (freeF c l o ps a).1 (-1125899906842624) = (0, true, 0) :=
  free_less h h' fun s v k p hp => by
    obtain ⟨mc, mm, _, _⟩ := doR_may hm
    have e := (min_ok c m mc mm).2.2 s
    obtain ⟨k1, k2⟩ := k p hp
    rw [e] at k1
    have e1 : (minV (atF c s) (atF m s)).m = min (atF c s).m (atF m s).m := rfl
    have e2 : (minV (atF c s) (atF m s)).c = min (atF c s).c (atF m s).c := rfl
    exact ⟨fun hk => by have := k1 hk; omega, k2⟩
def okB (c l o : Vec) (p : Pol) : Bool := (decide (p.k ≠ 0) || leV l c) && (decide (p.k ≠ 1) || leV o p.cap)
def keepB (c l o : List Seg) (ps : List Pol) (t z : Int) (s : Int) : Bool := !(decide (t ≤ s) && decide (s < z)) || ps.all (okB (atF c s) (atF l s) (atF o s))
theorem stops3 (c l o : List Seg) (t z : Int) (ts : List Int) (hc : ∀ x ∈ c, x.t ∈ ts) (hl : ∀ x ∈ l, x.t ∈ ts) (ho : ∀ x ∈ o, x.t ∈ ts) (Q : Vec → Vec → Vec → Prop) : (∀ s, t ≤ s → s < z → Q (atF c s) (atF l s) (atF o s)) ↔ ∀ s ∈ t :: ts, t ≤ s → s < z → Q (atF c s) (atF l s) (atF o s) := by
  constructor
  · intro h s _ h1 h2; exact h s h1 h2
  · intro h s h1 h2
    obtain ⟨u, g1, g2, g3, g4⟩ := last_stop t s h1 ts
    rw [atF_between c u s g3 (fun x hx => g4 x.t (hc x hx)), atF_between l u s g3 (fun x hx => g4 x.t (hl x hx)), atF_between o u s g3 (fun x hx => g4 x.t (ho x hx))]
    exact h u g1 g2 (by omega)
theorem used_law {c l o : List Seg} {ps : List Pol} {a t d : Int} {v : Vec} (h1 : (freeF c l o ps a).2 = 0) (h2 : (fitsF (freeF c l o ps a).1 t d v).2 = 0) (h3 : a ≤ t) (h4 : (rangeR l t (t + d) v).2 = 0) (h5 : (rangeR o t (t + d) v).2 = 0) :
    (fitsF (freeF c l o ps a).1 t d v).1 = (t :: ((rangeR l t (t + d) v).1.map (·.t) ++ ((rangeR o t (t + d) v).1.map (·.t) ++ c.map (·.t)))).all (keepB c (rangeR l t (t + d) v).1 (rangeR o t (t + d) v).1 ps t (t + d)) := by
  obtain ⟨h0, m1, v1, z1⟩ := free_law h1
  obtain ⟨F, hF⟩ : ∃ F, (freeF c l o ps a).1 = F := ⟨_, rfl⟩
  rw [hF] at h2 m1 v1 ⊢
  have hw : winE F t d v = 0 := by
    unfold fitsF at h2
    by_cases hw : winE F t d v = 0
    · exact hw
    · rw [if_neg hw] at h2; exact h2
  obtain ⟨_, d1, _, _, hv, _, _⟩ := win_ok hw
  have e : (fitsF F t d v).1 = intoF F t d v := by unfold fitsF; rw [if_pos hw, into_low m1 t d d1 v]
  have r1 := range_at h4
  have r2 := range_at h5
  obtain ⟨L, hL⟩ : ∃ L, (rangeR l t (t + d) v).1 = L := ⟨_, rfl⟩
  obtain ⟨O, hO⟩ : ∃ L, (rangeR o t (t + d) v).1 = L := ⟨_, rfl⟩
  rw [hL] at r1 ⊢
  rw [hO] at r2 ⊢
  have hQ : ∀ s, t ≤ s → s < t + d → (leW v (atF F s) = true ↔ ps.all (okB (atF c s) (atF L s) (atF O s)) = true) := by
    intro s s1 s2
    rw [v1 v s hv (by omega), List.all_eq_true]
    obtain ⟨q1, q2⟩ := r1 s s1 s2
    obtain ⟨q3, q4⟩ := r2 s s1 s2
    refine forall_congr' fun p => forall_congr' fun _ => ?_
    unfold okB leP leV
    rw [q1, q2, q3, q4]
    simp only [Bool.and_eq_true, Bool.or_eq_true, decide_eq_true_eq]
    constructor
    · rintro ⟨a1, a2⟩
      constructor
      · by_cases k : p.k = 0
        · exact .inr (a1 k)
        · exact .inl k
      · by_cases k : p.k = 1
        · exact .inr (a2 k)
        · exact .inl k
    · rintro ⟨a1, a2⟩
      exact ⟨fun k => a1.resolve_left (fun h => h k), fun k => a2.resolve_left (fun h => h k)⟩
  rw [e, Bool.eq_iff_iff, into_iff]
  have hs := stops3 c L O t (t + d) (L.map (·.t) ++ (O.map (·.t) ++ c.map (·.t))) (fun x hx => by simp only [List.mem_append, List.mem_map]; exact .inr (.inr ⟨x, hx, rfl⟩)) (fun x hx => by simp only [List.mem_append, List.mem_map]; exact .inl ⟨x, hx, rfl⟩) (fun x hx => by simp only [List.mem_append, List.mem_map]; exact .inr (.inl ⟨x, hx, rfl⟩)) (fun a b d => ps.all (okB a b d) = true)
  rw [show (∀ s, t ≤ s → s < t + d → leW v (atF F s) = true) ↔ ∀ s, t ≤ s → s < t + d → ps.all (okB (atF c s) (atF L s) (atF O s)) = true from forall_congr' fun s => forall_congr' fun s1 => forall_congr' fun s2 => hQ s s1 s2, hs, List.all_eq_true]
  refine forall_congr' fun s => forall_congr' fun _ => ?_
  unfold keepB
  by_cases s1 : t ≤ s <;> by_cases s2 : s < t + d <;> simp [s1, s2]
end Go.Proofs.YtglekfgoadehbaaDoor.V
end
section
set_option linter.unusedSimpArgs false
set_option linter.unusedVariables false
/- liverylaw15: great, below; lengths. -/
namespace Go.Proofs.YtglekfgoadehbaaDoor.V
open Go Go.Proofs
set_option maxRecDepth 100000
set_option maxHeartbeats 8000000
def caseA (c l o : List Seg) (ps : List Pol) (a : Int) : AV := .agg [.sl (c.map Seg.a) .no, .sl (l.map Seg.a) .no, .sl (o.map Seg.a) .no, .sl (ps.map Pol.a) .no, .int .i64 a]
def greatC (c l o : List Seg) (ps : List Pol) : Bool := decide (40 < c.length) || decide (40 < l.length) || decide (40 < o.length) || decide (10 < ps.length)
theorem great_15 (c l o : List Seg) (ps : List Pol) (a : Int) : VPure Tryd.prog 6 [caseA c l o ps a] (.bool (greatC c l o ps)) := by
  refine VPure.of v_liverylaw15_great_ok (Nat.le_of_ble_eq_true rfl) (fun Z st => ?_)
  unfold greatC
  by_cases h1 : 40 < c.length <;> by_cases h2 : 40 < l.length <;> by_cases h3 : 40 < o.length <;> by_cases h4 : 10 < ps.length <;>
  · simp only [v_liverylaw15_great, caseA, h1, h2, h3, h4, decide_true, decide_false, Bool.or_false, Bool.or_true, Bool.false_or, Bool.true_or, ↓vD, vU, ↓vMd, vMu, vZ, seval, k_app, k_slc1]
    (repeat' (first | (simp (maxDischargeDepth := 16) only [*, vX, ↓vD, vU, ↓vMd, vMu, vZ, seval]) | (simp (disch := first | assumption | omega | rfl | exact fun _ => rfl) only [vP]) | ((with_reducible first | apply gsnd | apply csnd | apply gsd | apply csd | apply gsn | apply csn | apply gs | apply cs_) <;> intro _) | (with_reducible refine objQ_i (fun _ _ => ?_); repeat with_reducible refine imp_i (fun _ => ?_))))
theorem great_no {c l o : List Seg} {ps : List Pol} (h : greatC c l o ps = false) : c.length ≤ 40 ∧ l.length ≤ 40 ∧ o.length ≤ 40 ∧ ps.length ≤ 10 := by
  unfold greatC at h
  simp only [Bool.or_eq_false_iff, decide_eq_false_iff_not] at h
  omega
theorem below_15 (f g : List Seg) (hf : f.length ≤ 1000000) (hg : g.length ≤ 1000000) : VPure Tryd.prog 17 [.sl (f.map Seg.a) .no, .sl (g.map Seg.a) .no] (.bool ((leR f g (-1125899906842624)).2.1 && decide ((leR f g (-1125899906842624)).2.2 = 0))) := by
  refine VPure.of v_liverylaw15_below_ok (Nat.le_of_ble_eq_true rfl) (fun Z st => ?_)
  have hL := LE_3 f g hf hg .no .no (-1125899906842624)
  obtain ⟨w, hw⟩ : ∃ w, leR f g (-1125899906842624) = w := ⟨_, rfl⟩
  rw [hw] at hL ⊢
  clear hw
  obtain ⟨x, b, e⟩ := w
  simp only [num] at hL
  simp only [v_liverylaw15_below, ↓vD, vU, ↓vMd, vMu, vZ, seval, k_app, k_slc1]
  cases b
  · (repeat' (first | (simp (maxDischargeDepth := 16) only [*, vX, ↓vD, vU, ↓vMd, vMu, vZ, seval]) | (simp (disch := first | assumption | omega | rfl | exact fun _ => rfl) only [vP]) | ((with_reducible first | apply gsnd | apply csnd | apply gsd | apply csd | apply gsn | apply csn | apply gs | apply cs_) <;> intro _) | (with_reducible first | refine callH_use (hL) ?_ | refine pureQ_use (hL) ?_)))
    all_goals first | done | trace_state
  · by_cases h0 : e = 0
    · subst h0
      (repeat' (first | (simp (maxDischargeDepth := 16) only [*, vX, ↓vD, vU, ↓vMd, vMu, vZ, seval]) | (simp (disch := first | assumption | omega | rfl | exact fun _ => rfl) only [vP]) | ((with_reducible first | apply gsnd | apply csnd | apply gsd | apply csd | apply gsn | apply csn | apply gs | apply cs_) <;> intro _) | (with_reducible first | refine callH_use (hL) ?_ | refine pureQ_use (hL) ?_)))
      all_goals first | done | trace_state
    · (repeat' (first | (simp (maxDischargeDepth := 16) only [*, vX, ↓vD, vU, ↓vMd, vMu, vZ, seval]) | (simp (disch := first | assumption | omega | rfl | exact fun _ => rfl) only [vP]) | ((with_reducible first | apply gsnd | apply csnd | apply gsd | apply csd | apply gsn | apply csn | apply gs | apply cs_) <;> intro _) | (with_reducible first | refine callH_use (hL) ?_ | refine pureQ_use (hL) ?_)))
      all_goals first | done | (simp [h0]; done) | trace_state
theorem vload_add (s : St) (t : Tok) (p : AV) (n : Nat) (g : Bool) : vload (s.add t) p n g = vload s p n g := by
  unfold vload; rw [add_objs]
theorem vload_kill (s : St) (t : Tok) (p : AV) (n : Nat) (g : Bool) : vload (s.kill t) p n g = vload s p n g := by
  unfold vload; rw [kill_objs]
theorem allF_len (c l o : List Seg) (a : Int) : ∀ (ps : List Pol) (f : List Seg), (allF c l o a ps f).1.length ≤ f.length + ps.length * (c.length + l.length + o.length + 1)
  | [], f => by simp [allF]
  | p :: r, f => by
    have hb := bound_len c l o a p
    have hd := doR_len 2 f (boundF c l o a p).1
    have ih := allF_len c l o a r (doR 2 f (boundF c l o a p).1).1
    have e : (p :: r).length * (c.length + l.length + o.length + 1) = r.length * (c.length + l.length + o.length + 1) + (c.length + l.length + o.length + 1) := by rw [List.length_cons, Nat.add_mul, Nat.one_mul]
    unfold allF
    split
    · split
      · omega
      · simp
    · simp
theorem freeF_len (c l o : List Seg) (ps : List Pol) (a : Int) (h : c.length + l.length + o.length ≤ 1000) (hp : ps.length ≤ 100) : (freeF c l o ps a).1.length ≤ 200000 := by
  unfold freeF
  split
  · simp
  · have h0 := allF_len (behindF c a) (behindF l a) (behindF o a) a ps (alwaysF fullV a)
    have h1 := always_len fullV a
    have h2 := behind_len c a
    have h3 := behind_len l a
    have h4 := behind_len o a
    have h5 : ps.length * ((behindF c a).length + (behindF l a).length + (behindF o a).length + 1) ≤ 100 * 1004 := Nat.mul_le_mul hp (by omega)
    omega
end Go.Proofs.YtglekfgoadehbaaDoor.V
end
section
set_option linter.unusedSimpArgs false
set_option linter.unusedVariables false
/- What is handed in, as V's values: structs and arrays of any parts. -/
namespace Go.Proofs.YtglekfgoadehbaaDoor.V
open Go Go.ChangeShapes Go.WideShapes Go.ChangeAt Go.RowKit Go.Deep
set_option maxRecDepth 100000
def OpC (t : TypeId) (sz : Nat) (R : List AV → Prop) : Prop :=
  ∀ {H : Type} {enc : TypeId × Value → H} {w : World} {base : Nat} {spare : Nat → Bool} {held : Bool} {fuel : Nat} {cs : List Value} {x : DataW H × List MemPlace}, DataW.trod enc Tryd.prog w base spare held fuel t cs = some x →
    ∃ l : List AV, RepL (imW w) l cs ∧ l.length = sz ∧ l.all AV.isCell = true ∧ R l
theorem OpC.mono {t : TypeId} {sz : Nat} {R R' : List AV → Prop} (h : OpC t sz R) (hr : ∀ l, R l → R' l) : OpC t sz R' := fun hx => by
  obtain ⟨l, h1, h2, h3, h4⟩ := h hx
  exact ⟨l, h1, h2, h3, hr l h4⟩
theorem opn_of {α : Type} {t : TypeId} {sz : Nat} {f : α → AV} {wf : α → Prop} (h : OpC t sz (fun l => ∃ v, l = (f v).cells ∧ wf v)) : Opn t sz f wf := fun hx => by
  obtain ⟨l, h1, h2, h3, v, rfl, h4⟩ := h hx
  exact ⟨v, h1, by simp [okEl, h2, h3], h4⟩
theorem opc_of {α : Type} {t : TypeId} {sz : Nat} {f : α → AV} {wf : α → Prop} (h : Opn t sz f wf) : OpC t sz (fun l => ∃ v, l = (f v).cells ∧ wf v) := fun hx => by
  obtain ⟨v, h1, h2, h3⟩ := h hx
  simp only [okEl, Bool.and_eq_true, beq_iff_eq] at h2
  exact ⟨_, h1, h2.1, h2.2, v, rfl, h3⟩
theorem opc_int {t : TypeId} {k : IntKind} (ht : Tryd.prog.underlying t = some (.int k)) : OpC t 1 (fun l => ∃ n, l = [.int k n] ∧ (Lit.int k n).wf = true) := by
  intro H enc w base spare held fuel cs x h
  obtain ⟨a, rfl, _, wa⟩ := DataW.trod_int ht h
  exact ⟨[.int k a], by simp [RepL, Rep], rfl, rfl, a, rfl, wa⟩
theorem opc_sl {α : Type} [Inhabited α] {t e : TypeId} {sz : Nat} {f : α → AV} {wf : α → Prop} (ht : Tryd.prog.underlying t = some (.slice e)) (hsz : Tryd.prog.cellsOf e = sz) (hp : 0 < sz) (hO : Opn e sz f wf) :
    OpC t 1 (fun l => ∃ xs : List α, l = [.sl (xs.map f) .no] ∧ (∀ x ∈ xs, wf x) ∧ (xs.length : Int) ≤ 9223372036854775807) :=
  OpC.mono (opc_of (opn_sl ht hsz hp hO)) (by rintro l ⟨xs, rfl, h⟩; exact ⟨xs, rfl, h⟩)
def tot : List (Nat × (List AV → Prop)) → Nat
  | [] => 0
  | (n, _) :: r => n + tot r
def AllC : List (Nat × (List AV → Prop)) → List AV → Prop
  | [], l => l = []
  | (_, R) :: r, l => ∃ a b, l = a ++ b ∧ R a ∧ AllC r b
def Parts (w : World) (cs : List Value) : Nat → List (Nat × (List AV → Prop)) → Prop
  | _, [] => True
  | o, (n, R) :: r => (∃ a : List AV, RepL (imW w) a ((cs.drop o).take n) ∧ a.length = n ∧ a.all AV.isCell = true ∧ R a) ∧ Parts w cs (o + n) r
theorem glue {w : World} {cs : List Value} : ∀ {ps : List (Nat × (List AV → Prop))} {o : Nat}, Parts w cs o ps → ∃ l : List AV, RepL (imW w) l ((cs.drop o).take (tot ps)) ∧ l.length = tot ps ∧ l.all AV.isCell = true ∧ AllC ps l
  | [], o, _ => ⟨[], by simp [tot, RepL], rfl, rfl, rfl⟩
  | (n, R) :: r, o, ⟨⟨a, h1, h2, h3, h4⟩, h⟩ => by
    obtain ⟨b, k1, k2, k3, k4⟩ := glue h
    refine ⟨a ++ b, ?_, by simp [h2, k2, tot], by simp only [List.all_append, h3, k3, Bool.and_self], a, b, rfl, h4, k4⟩
    simp only [tot]
    rw [List.take_add, List.drop_drop]
    exact h1.append k1
def SeqC : List Field → Nat → List (Nat × (List AV → Prop)) → Prop
  | [], _, [] => True
  | f :: fs, o, (n, R) :: r => (f.offset = o ∧ Tryd.prog.cellsOf f.type = n ∧ OpC f.type n R) ∧ SeqC fs (o + n) r
  | _, _, _ => False
theorem opc_struct {t : TypeId} {fs : Array Field} {ps : List (Nat × (List AV → Prop))} (ht : Tryd.prog.underlying t = some (.struct fs)) (hsz : Tryd.prog.cellsOf t = tot ps) (hs : SeqC fs.toList 0 ps) : OpC t (tot ps) (AllC ps) := by
  intro H enc w base spare held fuel cs x h
  obtain ⟨xs, n, _, rfl, hl, hlen, hf⟩ := DataW.trod_struct ht h
  have key : ∀ (fl : List Field) (o : Nat) (ps : List (Nat × (List AV → Prop))), (∀ f ∈ fl, ∃ y, DataW.trod enc Tryd.prog w base spare held n f.type ((cs.drop f.offset).take (Tryd.prog.cellsOf f.type)) = some y) → SeqC fl o ps → Parts w cs o ps := by
    intro fl
    induction fl with
    | nil =>
      intro o ps _ hs
      cases ps with
      | nil => trivial
      | cons p r => exact hs.elim
    | cons f fl ih =>
      intro o ps hy hs
      match ps, hs with
      | (m, R) :: r, ⟨⟨e1, e2, h3⟩, h4⟩ =>
        obtain ⟨y, hy1⟩ := hy f (by simp)
        rw [e1, e2] at hy1
        exact ⟨h3 hy1, ih _ _ (fun g hg => hy g (by simp [hg])) h4⟩
  have hp := key fs.toList 0 ps (fun f hfm => by
    obtain ⟨i, hi, rfl⟩ := List.getElem_of_mem hfm
    have hi2 : i < fs.size := by simpa using hi
    have := hf i fs[i] (by simp [hi2])
    rw [List.getElem?_eq_getElem (by omega)] at this
    exact ⟨_, by simpa using this⟩) hs
  obtain ⟨l, k1, k2, k3, k4⟩ := glue hp
  refine ⟨l, ?_, k2, k3, k4⟩
  rw [List.drop_zero, List.take_of_length_le (by omega)] at k1
  exact k1
theorem tot_rep (n m : Nat) (R : List AV → Prop) : tot (List.replicate m (n, R)) = m * n := by
  induction m with
  | zero => simp [tot]
  | succ m ih => rw [List.replicate_succ, tot, ih, Nat.add_mul]; omega
theorem opc_array {t e : TypeId} {m n : Nat} {R : List AV → Prop} (ht : Tryd.prog.underlying t = some (.array m e)) (hsz : Tryd.prog.cellsOf t = m * n) (he : Tryd.prog.cellsOf e = n) (hR : OpC e n R) : OpC t (m * n) (AllC (List.replicate m (n, R))) := by
  intro H enc w base spare held fuel cs x h
  obtain ⟨xs, q, _, rfl, hl, hlen, hf⟩ := DataW.trod_array ht h
  have key : ∀ (k i : Nat), i + k = m → Parts w cs (i * n) (List.replicate k (n, R)) := by
    intro k
    induction k with
    | zero => intro _ _; trivial
    | succ k ih =>
      intro i hi
      rw [List.replicate_succ]
      have h1 := hf i (by omega)
      rw [List.getElem?_eq_getElem (by omega), he] at h1
      refine ⟨hR h1, ?_⟩
      have := ih (i + 1) (by omega)
      rwa [Nat.add_mul, Nat.one_mul] at this
  have hp := key m 0 (by omega)
  rw [Nat.zero_mul] at hp
  obtain ⟨l, k1, k2, k3, k4⟩ := glue hp
  rw [tot_rep] at k1 k2
  refine ⟨l, ?_, k2, k3, k4⟩
  rw [List.drop_zero, List.take_of_length_le (by omega)] at k1
  exact k1
theorem open_agg {α : Type} {t : TypeId} {sz : Nat} {g : α → List AV} {wf : α → Prop} {fs : Array Field} (ht : Tryd.prog.underlying t = some (.struct fs)) (hO : Opn t sz (fun x => .agg (g x)) wf)
    {H : Type} {enc : TypeId × Value → H} {w : World} {base base' : Nat} {spare : Nat → Bool} {held : Bool} {v : Value} {d : DataW H} {ps : List MemPlace} {r : Reach} (hval : Value.okWide Tryd.prog w r base' t v) (h : DataW.Trod enc Tryd.prog w base spare held t v d ps) :
    ∃ x : α, Rep (imW w) (.agg (g x)) v ∧ wf x := by
  simp only [Value.okWide, ht] at hval
  obtain ⟨cs, rfl, hsz, _⟩ := hval
  obtain ⟨fuel, hf⟩ := h
  obtain ⟨x, h1, _, h3⟩ := hO hf
  exact ⟨x, by simp only [Rep]; exact ⟨cs, rfl, h1⟩, h3⟩
theorem open_arr {α : Type} {t e : TypeId} {sz m : Nat} {g : α → List AV} {wf : α → Prop} (ht : Tryd.prog.underlying t = some (.array m e)) (hO : Opn t sz (fun x => .agg (g x)) wf)
    {H : Type} {enc : TypeId × Value → H} {w : World} {base base' : Nat} {spare : Nat → Bool} {held : Bool} {v : Value} {d : DataW H} {ps : List MemPlace} {r : Reach} (hval : Value.okWide Tryd.prog w r base' t v) (h : DataW.Trod enc Tryd.prog w base spare held t v d ps) :
    ∃ x : α, Rep (imW w) (.agg (g x)) v ∧ wf x := by
  simp only [Value.okWide, ht] at hval
  obtain ⟨cs, rfl, hsz, _⟩ := hval
  obtain ⟨fuel, hf⟩ := h
  obtain ⟨x, h1, _, h3⟩ := hO hf
  exact ⟨x, by simp only [Rep]; exact ⟨cs, rfl, h1⟩, h3⟩
/-! The structs of times and resources. -/
end Go.Proofs.YtglekfgoadehbaaDoor.V
end
section
set_option linter.unusedSimpArgs false
set_option linter.unusedVariables false
/- What the laws of fit are handed. -/
namespace Go.Proofs.YtglekfgoadehbaaDoor.V
open Go Go.ChangeShapes Go.WideShapes Go.ChangeAt Go.RowKit Go.Deep
set_option maxRecDepth 100000
theorem k_u8 {n : Int} (h : (Lit.int .u8 n).wf = true) : 0 ≤ n ∧ n ≤ 255 := by
  simp [Lit.wf] at h
  first | exact h | omega | (have := h; simp [IntKind.wrap, IntKind.lo, IntKind.hi] at this; omega)
theorem k_u16 {n : Int} (h : (Lit.int .u16 n).wf = true) : 0 ≤ n ∧ n ≤ 65535 := by
  simp [Lit.wf] at h
  first | exact h | omega | (have := h; simp [IntKind.wrap, IntKind.lo, IntKind.hi] at this; omega)
def wfPol (p : Pol) : Prop := 0 ≤ p.k ∧ p.k ≤ 255
theorem opn_pol : Opn 41 4 Pol.a wfPol :=
  opn_of (OpC.mono (opc_struct (ps := [(1, _), (2, _), (1, _)]) Tryd.underlying41 (by kernel_rfl) ⟨⟨rfl, by kernel_rfl, opc_int (k := .u8) (by kernel_rfl)⟩, ⟨rfl, by kernel_rfl, opc_of opn_vec⟩, ⟨rfl, by kernel_rfl, opc_int (k := .i64) (by kernel_rfl)⟩, trivial⟩) (by
    rintro l ⟨_, _, rfl, ⟨a, rfl, ha⟩, _, _, rfl, ⟨v, rfl, hv⟩, _, _, rfl, ⟨n, rfl, hn⟩, rfl⟩
    exact ⟨⟨a, v, n⟩, rfl, k_u8 ha⟩))
theorem open_pol {H : Type} {enc : TypeId × Value → H} {w : World} {base base' : Nat} {spare : Nat → Bool} {held : Bool} {v : Value} {d : DataW H} {ps : List MemPlace} {r : Reach} (hval : Value.okWide Tryd.prog w r base' 41 v) (h : DataW.Trod enc Tryd.prog w base spare held 41 v d ps) :
    ∃ x : Pol, Rep (imW w) x.a v ∧ wfPol x := open_agg (g := fun x : Pol => [.int .u8 x.k, .int .i64 x.cap.m, .int .i64 x.cap.c, .int .i64 x.win]) Tryd.underlying41 opn_pol hval h
structure Ask15 where
  n : Int
  d : Int
  v : Vec
def Ask15.a (x : Ask15) : AV := .agg [.int .i64 x.n, .int .i64 x.d, .int .i64 x.v.m, .int .i64 x.v.c]
theorem opn_Ask15 : Opn 29 4 Ask15.a (fun _ => True) :=
  opn_of (OpC.mono (opc_struct (ps := [(1, _), (1, _), (2, _)]) Tryd.underlying29 (by kernel_rfl) ⟨⟨rfl, by kernel_rfl, opc_int (k := .i64) (by kernel_rfl)⟩, ⟨rfl, by kernel_rfl, opc_int (k := .i64) (by kernel_rfl)⟩, ⟨rfl, by kernel_rfl, opc_of opn_vec⟩, trivial⟩) (by
    rintro l ⟨_, _, rfl, ⟨a, rfl, ha⟩, _, _, rfl, ⟨n, rfl, hn⟩, _, _, rfl, ⟨v, rfl, hv⟩, rfl⟩
    exact ⟨⟨a, n, v⟩, rfl, trivial⟩))
theorem open_Ask15 {H : Type} {enc : TypeId × Value → H} {w : World} {base base' : Nat} {spare : Nat → Bool} {held : Bool} {v : Value} {d : DataW H} {ps : List MemPlace} {r : Reach} (hval : Value.okWide Tryd.prog w r base' 29 v) (h : DataW.Trod enc Tryd.prog w base spare held 29 v d ps) :
    ∃ x : Ask15, Rep (imW w) x.a v ∧ True := open_agg (g := fun x : Ask15 => [.int .i64 x.n, .int .i64 x.d, .int .i64 x.v.m, .int .i64 x.v.c]) Tryd.underlying29 opn_Ask15 hval h
structure Case15 where
  c : List Seg
  l : List Seg
  o : List Seg
  ps : List Pol
  n : Int
def Case15.a (x : Case15) : AV := caseA x.c x.l x.o x.ps x.n
def wfCase15 (x : Case15) : Prop := (x.c.length : Int) ≤ 9223372036854775807 ∧ (x.l.length : Int) ≤ 9223372036854775807 ∧ (x.o.length : Int) ≤ 9223372036854775807 ∧ (x.ps.length : Int) ≤ 9223372036854775807 ∧ ∀ p ∈ x.ps, 0 ≤ p.k
theorem opn_Case15 : Opn 25 5 Case15.a wfCase15 :=
  opn_of (OpC.mono (opc_struct (ps := [(1, _), (1, _), (1, _), (1, _), (1, _)]) Tryd.underlying25 (by kernel_rfl) ⟨⟨rfl, by kernel_rfl, opc_sl Tryd.underlying22 (by kernel_rfl) (by decide) opn_seg⟩, ⟨rfl, by kernel_rfl, opc_sl Tryd.underlying22 (by kernel_rfl) (by decide) opn_seg⟩,
    ⟨rfl, by kernel_rfl, opc_sl Tryd.underlying22 (by kernel_rfl) (by decide) opn_seg⟩, ⟨rfl, by kernel_rfl, opc_sl Tryd.underlying23 (by kernel_rfl) (by decide) opn_pol⟩, ⟨rfl, by kernel_rfl, opc_int (k := .i64) (by kernel_rfl)⟩, trivial⟩) (by
    rintro l ⟨_, _, rfl, ⟨c, rfl, h1⟩, _, _, rfl, ⟨m, rfl, h2⟩, _, _, rfl, ⟨o, rfl, h3⟩, _, _, rfl, ⟨q, rfl, h4⟩, _, _, rfl, ⟨n, rfl, hn⟩, rfl⟩
    exact ⟨⟨c, m, o, q, n⟩, rfl, h1.2, h2.2, h3.2, h4.2, fun p hp => (h4.1 p hp).1⟩))
theorem open_Case15 {H : Type} {enc : TypeId × Value → H} {w : World} {base base' : Nat} {spare : Nat → Bool} {held : Bool} {v : Value} {d : DataW H} {ps : List MemPlace} {r : Reach} (hval : Value.okWide Tryd.prog w r base' 25 v) (h : DataW.Trod enc Tryd.prog w base spare held 25 v d ps) :
    ∃ x : Case15, Rep (imW w) x.a v ∧ wfCase15 x := open_agg (g := fun x : Case15 => [.sl (x.c.map Seg.a) .no, .sl (x.l.map Seg.a) .no, .sl (x.o.map Seg.a) .no, .sl (x.ps.map Pol.a) .no, .int .i64 x.n]) Tryd.underlying25 opn_Case15 hval h
def arr2h (p : Int × Int) : AV := .agg [.int .u16 p.1, .int .u16 p.2]
theorem opn_arr2h : Opn 46 2 arr2h (fun p => (0 ≤ p.1 ∧ p.1 ≤ 65535) ∧ 0 ≤ p.2 ∧ p.2 ≤ 65535) :=
  opn_of (OpC.mono (opc_array (m := 2) (n := 1) Tryd.underlying46 (by kernel_rfl) (by kernel_rfl) (opc_int (k := .u16) (by kernel_rfl))) (by
    rintro l ⟨_, _, rfl, ⟨a, rfl, ha⟩, _, _, rfl, ⟨b, rfl, hb⟩, rfl⟩
    exact ⟨(a, b), rfl, k_u16 ha, k_u16 hb⟩))
theorem open_arr2h {H : Type} {enc : TypeId × Value → H} {w : World} {base base' : Nat} {spare : Nat → Bool} {held : Bool} {v : Value} {d : DataW H} {ps : List MemPlace} {r : Reach} (hval : Value.okWide Tryd.prog w r base' 46 v) (h : DataW.Trod enc Tryd.prog w base spare held 46 v d ps) :
    ∃ p : Int × Int, Rep (imW w) (arr2h p) v ∧ ((0 ≤ p.1 ∧ p.1 ≤ 65535) ∧ 0 ≤ p.2 ∧ p.2 ≤ 65535) := open_arr (g := fun p : Int × Int => [.int .u16 p.1, .int .u16 p.2]) Tryd.underlying46 opn_arr2h hval h
end Go.Proofs.YtglekfgoadehbaaDoor.V
end
section
set_option linter.unusedSimpArgs false
set_option linter.unusedVariables false
/- FitTakes, walked. -/
namespace Go.Proofs.YtglekfgoadehbaaDoor.V
open Go Go.Proofs
set_option maxRecDepth 100000
set_option maxHeartbeats 8000000
theorem most_tail (f : List Seg) (hl : f.length ≤ 1000000) (n d : Int) (p q : Int) (hp : 0 ≤ p ∧ p < 1000) (hq : 0 ≤ q ∧ q < 1000) : ∃ k e : Int, VPure Tryd.prog 16 [.sl (f.map Seg.a) .no, .int .i64 n, .int .i64 d, .agg [.int .i64 (1 + p), .int .i64 (1 + q)]] (.tup [.int .i64 k, .int .i64 e]) ∧
    ((¬ e = 0 ∧ k = 0) ∨ (e = 0 ∧ 549755813888 < k) ∨ (e = 0 ∧ 0 ≤ k ∧ k ≤ 549755813888 ∧ IntKind.i64.wrap (k * (1 + p)) = k * (1 + p) ∧ IntKind.i64.wrap (k * (1 + q)) = k * (1 + q) ∧ IntKind.i64.wrap (k + 1) = k + 1 ∧ IntKind.i64.wrap ((k + 1) * (1 + p)) = (k + 1) * (1 + p) ∧ IntKind.i64.wrap ((k + 1) * (1 + q)) = (k + 1) * (1 + q) ∧
      (∃ b : Bool, (b = true ∨ k = 0) ∧ VPure Tryd.prog 9 [.sl (f.map Seg.a) .no, .int .i64 n, .int .i64 d, .agg [.int .i64 (k * (1 + p)), .int .i64 (k * (1 + q))]] (.tup [.bool b, .int .i64 0])) ∧ VPure Tryd.prog 9 [.sl (f.map Seg.a) .no, .int .i64 n, .int .i64 d, .agg [.int .i64 ((k + 1) * (1 + p)), .int .i64 ((k + 1) * (1 + q))]] (.tup [.bool false, .int .i64 0]))) := by
  have a2 := Most_c f hl n d ⟨1 + p, 1 + q⟩ .no
  refine ⟨_, _, a2, ?_⟩
  by_cases e1 : (mostF f n d ⟨1 + p, 1 + q⟩).2 = 0
  case neg => exact .inl ⟨e1, most_0 e1⟩
  by_cases e2 : (mostF f n d ⟨1 + p, 1 + q⟩).1 ≤ 549755813888
  case neg => exact .inr (.inl ⟨e1, by omega⟩)
  obtain ⟨l1, l2, l3, l4, l5⟩ := most_law e1 (by simp only; omega) e2
  have c1 := Fits_c f hl n d ⟨(mostF f n d ⟨1 + p, 1 + q⟩).1 * (1 + p), (mostF f n d ⟨1 + p, 1 + q⟩).1 * (1 + q)⟩ .no
  have c2 := Fits_c f hl n d ⟨((mostF f n d ⟨1 + p, 1 + q⟩).1 + 1) * (1 + p), ((mostF f n d ⟨1 + p, 1 + q⟩).1 + 1) * (1 + q)⟩ .no
  simp only at l2 l3 l4 l5
  rw [l2] at c1
  rw [l3, l5] at c2
  obtain ⟨k, hk⟩ : ∃ k, (mostF f n d ⟨1 + p, 1 + q⟩).1 = k := ⟨_, rfl⟩
  rw [hk] at e2 l1 l2 l3 l4 l5 c1 c2 ⊢
  have bd : ∀ j x : Int, 0 ≤ j → j ≤ 549755813889 → 0 ≤ x → x < 1000 → IntKind.i64.wrap (j * (1 + x)) = j * (1 + x) := fun j x h1 h2 h3 h4 => by
    have b1 : 0 ≤ j * (1 + x) := Int.mul_nonneg h1 (by omega)
    have b2 : j * (1 + x) ≤ 549755813889 * 1000 := Int.mul_le_mul h2 (by omega) (by omega) (by omega)
    exact wrap_i64 _ (by omega) (by omega)
  exact .inr (.inr ⟨e1, l1, e2, bd _ _ (by omega) (by omega) (by omega) (by omega), bd _ _ (by omega) (by omega) (by omega) (by omega), wrap_i64 _ (by omega) (by omega), bd _ _ (by omega) (by omega) (by omega) (by omega), bd _ _ (by omega) (by omega) (by omega) (by omega), ⟨_, l4, c1⟩, c2⟩)
theorem fitTakes_v (f : List Seg) (hl : (f.length : Int) ≤ 9223372036854775807) (n d : Int) (v : Vec) (u0 u1 : Int) (h0 : 0 ≤ u0 ∧ u0 ≤ 65535) (h1 : 0 ≤ u1 ∧ u1 ≤ 65535) : VPure Tryd.prog 4 [.sl (f.map Seg.a) .no, .agg [.int .i64 n, .int .i64 d, .int .i64 v.m, .int .i64 v.c], .agg [.int .u16 u0, .int .u16 u1]] (.bool true) := by
  refine VPure.of v_liverylaw15_FitTakes_ok (Nat.le_of_ble_eq_true rfl) (fun Z st => ?_)
  by_cases h60 : 60 < f.length
  · simp only [v_liverylaw15_FitTakes, ↓vD, vU, ↓vMd, vMu, vZ, seval, k_app, k_slc1]
    (repeat' (first | (simp (maxDischargeDepth := 16) only [*, vX, ↓vD, vU, ↓vMd, vMu, vZ, seval]) | (simp (disch := first | assumption | omega | rfl | exact fun _ => rfl) only [vP]) | ((with_reducible first | apply gsnd | apply csnd | apply gsd | apply csd | apply gsn | apply csn | apply gs | apply cs_) <;> intro _) | (with_reducible refine objQ_i (fun _ _ => ?_); repeat with_reducible refine imp_i (fun _ => ?_)) | (with_reducible first | refine callH_use (head_15) ?_ | refine pureQ_use (head_15) ?_)))
  have r0 : ∀ x : Int, 0 ≤ x → x ≤ 65535 → ∃ m : Int, vbin .rem (.int .u16 x) (.int .u16 1000) = some (.int .u16 m) ∧ 0 ≤ m ∧ m < 1000 := fun x a b => by
    refine ⟨x % 1000, ?_, Int.emod_nonneg _ (by omega), Int.emod_lt_of_pos _ (by omega)⟩
    have e1 : x.tmod 1000 = x % 1000 := Int.tmod_eq_emod_of_nonneg a
    simp [vbin, e1]
  obtain ⟨m0, q0, q1, q2⟩ := r0 u0 h0.1 h0.2
  obtain ⟨m1, q3, q4, q5⟩ := r0 u1 h1.1 h1.2
  clear r0
  have y0 : ∀ b, viaa 2 1 (.ptr b 0) (.int .i64 0) = some (.ptr b 0) := fun b => by simp [viaa, vfad]
  have y1 : ∀ b, viaa 2 1 (.ptr b 0) (.int .i64 1) = some (.ptr b 1) := fun b => by simp [viaa, vfad]
  have w0 : IntKind.i64.wrap m0 = m0 := wrap_i64 _ (by omega) (by omega)
  have w1 : IntKind.i64.wrap m1 = m1 := wrap_i64 _ (by omega) (by omega)
  have w2 : IntKind.i64.wrap (1 + m0) = 1 + m0 := wrap_i64 _ (by omega) (by omega)
  have w3 : IntKind.i64.wrap (1 + m1) = 1 + m1 := wrap_i64 _ (by omega) (by omega)
  obtain ⟨k, e, a2, ht⟩ := most_tail f (by omega) n d m0 m1 ⟨q1, q2⟩ ⟨q4, q5⟩
  have HK := Hid.mk ht
  clear ht
  have a1 := Take_c f (by omega) n d v .no
  by_cases e0 : (takeF f n d v).2 = 0
  rotate_left
  · obtain ⟨T, hT⟩ : ∃ T, takeF f n d v = T := ⟨_, rfl⟩
    rw [hT] at a1 e0
    simp only [num, Vec.a] at a1
    clear hT
    rcases HK.out with ⟨t1, t2⟩ | ⟨t1, t2⟩ | ⟨t1, t2, t3, t4, t5, t6, t7, t8, ⟨b, t9, t10⟩, t11⟩ <;> clear HK
    · simp only [v_liverylaw15_FitTakes, ↓vD, vU, ↓vMd, vMu, vZ, seval, k_app, k_slc1]
      (repeat' (first | (simp (maxDischargeDepth := 16) only [*, q0, q3, y0, y1, vX, ↓vD, vU, ↓vMd, vMu, vZ, seval]) | (simp (disch := first | assumption | omega | rfl | exact fun _ => rfl) only [q0, q3, y0, y1, vP]) | ((with_reducible first | apply gsnd | apply csnd | apply gsd | apply csd | apply gsn | apply csn | apply gs | apply cs_) <;> intro _) | (with_reducible refine objQ_i (fun _ _ => ?_); repeat with_reducible refine imp_i (fun _ => ?_)) | (with_reducible first | refine callH_use (a1) ?_ | refine pureQ_use (a1) ?_) | (with_reducible first | refine callH_use (a2) ?_ | refine pureQ_use (a2) ?_) | (with_reducible first | refine callH_use (head_15) ?_ | refine pureQ_use (head_15) ?_)))
    · subst t1
      simp only [v_liverylaw15_FitTakes, ↓vD, vU, ↓vMd, vMu, vZ, seval, k_app, k_slc1]
      (repeat' (first | (simp (maxDischargeDepth := 16) only [*, q0, q3, y0, y1, vX, ↓vD, vU, ↓vMd, vMu, vZ, seval]) | (simp (disch := first | assumption | omega | rfl | exact fun _ => rfl) only [q0, q3, y0, y1, vP]) | ((with_reducible first | apply gsnd | apply csnd | apply gsd | apply csd | apply gsn | apply csn | apply gs | apply cs_) <;> intro _) | (with_reducible refine objQ_i (fun _ _ => ?_); repeat with_reducible refine imp_i (fun _ => ?_)) | (with_reducible first | refine callH_use (a1) ?_ | refine pureQ_use (a1) ?_) | (with_reducible first | refine callH_use (a2) ?_ | refine pureQ_use (a2) ?_) | (with_reducible first | refine callH_use (head_15) ?_ | refine pureQ_use (head_15) ?_)))
    · subst t1
      rcases t9 with rfl | rfl
      rotate_left
      · simp only [Int.zero_add] at t6 t7 t8 t11
        simp only [v_liverylaw15_FitTakes, ↓vD, vU, ↓vMd, vMu, vZ, seval, k_app, k_slc1]
        (repeat' (first | (simp (maxDischargeDepth := 16) only [*, q0, q3, y0, y1, vX, ↓vD, vU, ↓vMd, vMu, vZ, seval]) | (simp (disch := first | assumption | omega | rfl | exact fun _ => rfl) only [q0, q3, y0, y1, vP]) | ((with_reducible first | apply gsnd | apply csnd | apply gsd | apply csd | apply gsn | apply csn | apply gs | apply cs_) <;> intro _) | (with_reducible refine objQ_i (fun _ _ => ?_); repeat with_reducible refine imp_i (fun _ => ?_)) | (with_reducible first | refine callH_use (a1) ?_ | refine pureQ_use (a1) ?_) | (with_reducible first | refine callH_use (a2) ?_ | refine pureQ_use (a2) ?_) | (with_reducible first | refine callH_use (t10) ?_ | refine pureQ_use (t10) ?_) | (with_reducible first | refine callH_use (t11) ?_ | refine pureQ_use (t11) ?_) | (with_reducible first | refine callH_use (head_15) ?_ | refine pureQ_use (head_15) ?_)))
      · simp only [v_liverylaw15_FitTakes, ↓vD, vU, ↓vMd, vMu, vZ, seval, k_app, k_slc1]
        (repeat' (first | (simp (maxDischargeDepth := 16) only [*, q0, q3, y0, y1, vX, ↓vD, vU, ↓vMd, vMu, vZ, seval]) | (simp (disch := first | assumption | omega | rfl | exact fun _ => rfl) only [q0, q3, y0, y1, vP]) | ((with_reducible first | apply gsnd | apply csnd | apply gsd | apply csd | apply gsn | apply csn | apply gs | apply cs_) <;> intro _) | (with_reducible refine objQ_i (fun _ _ => ?_); repeat with_reducible refine imp_i (fun _ => ?_)) | (with_reducible first | refine callH_use (a1) ?_ | refine pureQ_use (a1) ?_) | (with_reducible first | refine callH_use (a2) ?_ | refine pureQ_use (a2) ?_) | (with_reducible first | refine callH_use (t10) ?_ | refine pureQ_use (t10) ?_) | (with_reducible first | refine callH_use (t11) ?_ | refine pureQ_use (t11) ?_) | (with_reducible first | refine callH_use (head_15) ?_ | refine pureQ_use (head_15) ?_)))
  · obtain ⟨g1, g2, g3, g4, g5⟩ := take_law e0
    have hv := (mayV_iff v).1 (win_ok g1).2.2.2.2.1
    have n0 : IntKind.i64.wrap (0 - v.m) = -v.m := by rw [wrap_i64 _ (by omega) (by omega)]; omega
    have n1 : IntKind.i64.wrap (0 - v.c) = -v.c := by rw [wrap_i64 _ (by omega) (by omega)]; omega
    have tl := take_len f n d v
    have b1 := Take_c (takeF f n d v).1 (by omega) n d ⟨-v.m, -v.c⟩ .no
    have b2 := Fits_c f (by omega) n d v .no
    have b3 := Fits_c (takeF f n d v).1 (by omega) n d v0 .no
    rw [g2] at b1
    rw [g3, g5] at b2
    rw [g4] at b3
    have b4 := Same_2 f f (by omega) .no .no
    have b5 : sameF f f = true := by unfold sameF; simp
    rw [b5] at b4
    rw [e0] at a1
    obtain ⟨T, hT⟩ : ∃ T, (takeF f n d v).1 = T := ⟨_, rfl⟩
    rw [hT] at a1 b1 b2 b3
    obtain ⟨B, hB⟩ : ∃ B, (fitsF T n d v0).1 = B := ⟨_, rfl⟩
    rw [hB] at b2 b3
    simp only [num, Vec.a, v0] at a1 b1 b2 b3
    clear hT hB b5 g1 g2 g3 g4 g5 e0 tl hv
    rcases HK.out with ⟨t1, t2⟩ | ⟨t1, t2⟩ | ⟨t1, t2, t3, t4, t5, t6, t7, t8, ⟨b, t9, t10⟩, t11⟩ <;> clear HK
    · simp only [v_liverylaw15_FitTakes, ↓vD, vU, ↓vMd, vMu, vZ, seval, k_app, k_slc1]
      (repeat' (first | (simp (maxDischargeDepth := 16) only [*, q0, q3, y0, y1, vX, ↓vD, vU, ↓vMd, vMu, vZ, seval]) | (simp (disch := first | assumption | omega | rfl | exact fun _ => rfl) only [q0, q3, y0, y1, vP]) | ((with_reducible first | apply gsnd | apply csnd | apply gsd | apply csd | apply gsn | apply csn | apply gs | apply cs_) <;> intro _) | (with_reducible refine objQ_i (fun _ _ => ?_); repeat with_reducible refine imp_i (fun _ => ?_)) | (with_reducible first | refine callH_use (a1) ?_ | refine pureQ_use (a1) ?_) | (with_reducible first | refine callH_use (b1) ?_ | refine pureQ_use (b1) ?_) | (with_reducible first | refine callH_use (b2) ?_ | refine pureQ_use (b2) ?_) | (with_reducible first | refine callH_use (b3) ?_ | refine pureQ_use (b3) ?_) | (with_reducible first | refine callH_use (b4) ?_ | refine pureQ_use (b4) ?_) | (with_reducible first | refine callH_use (a2) ?_ | refine pureQ_use (a2) ?_) | (with_reducible first | refine callH_use (head_15) ?_ | refine pureQ_use (head_15) ?_)))
    · subst t1
      simp only [v_liverylaw15_FitTakes, ↓vD, vU, ↓vMd, vMu, vZ, seval, k_app, k_slc1]
      (repeat' (first | (simp (maxDischargeDepth := 16) only [*, q0, q3, y0, y1, vX, ↓vD, vU, ↓vMd, vMu, vZ, seval]) | (simp (disch := first | assumption | omega | rfl | exact fun _ => rfl) only [q0, q3, y0, y1, vP]) | ((with_reducible first | apply gsnd | apply csnd | apply gsd | apply csd | apply gsn | apply csn | apply gs | apply cs_) <;> intro _) | (with_reducible refine objQ_i (fun _ _ => ?_); repeat with_reducible refine imp_i (fun _ => ?_)) | (with_reducible first | refine callH_use (a1) ?_ | refine pureQ_use (a1) ?_) | (with_reducible first | refine callH_use (b1) ?_ | refine pureQ_use (b1) ?_) | (with_reducible first | refine callH_use (b2) ?_ | refine pureQ_use (b2) ?_) | (with_reducible first | refine callH_use (b3) ?_ | refine pureQ_use (b3) ?_) | (with_reducible first | refine callH_use (b4) ?_ | refine pureQ_use (b4) ?_) | (with_reducible first | refine callH_use (a2) ?_ | refine pureQ_use (a2) ?_) | (with_reducible first | refine callH_use (head_15) ?_ | refine pureQ_use (head_15) ?_)))
    · subst t1
      rcases t9 with rfl | rfl
      rotate_left
      · simp only [Int.zero_add] at t6 t7 t8 t11
        simp only [v_liverylaw15_FitTakes, ↓vD, vU, ↓vMd, vMu, vZ, seval, k_app, k_slc1]
        (repeat' (first | (simp (maxDischargeDepth := 16) only [*, q0, q3, y0, y1, vX, ↓vD, vU, ↓vMd, vMu, vZ, seval]) | (simp (disch := first | assumption | omega | rfl | exact fun _ => rfl) only [q0, q3, y0, y1, vP]) | ((with_reducible first | apply gsnd | apply csnd | apply gsd | apply csd | apply gsn | apply csn | apply gs | apply cs_) <;> intro _) | (with_reducible refine objQ_i (fun _ _ => ?_); repeat with_reducible refine imp_i (fun _ => ?_)) | (with_reducible first | refine callH_use (a1) ?_ | refine pureQ_use (a1) ?_) | (with_reducible first | refine callH_use (b1) ?_ | refine pureQ_use (b1) ?_) | (with_reducible first | refine callH_use (b2) ?_ | refine pureQ_use (b2) ?_) | (with_reducible first | refine callH_use (b3) ?_ | refine pureQ_use (b3) ?_) | (with_reducible first | refine callH_use (b4) ?_ | refine pureQ_use (b4) ?_) | (with_reducible first | refine callH_use (a2) ?_ | refine pureQ_use (a2) ?_) | (with_reducible first | refine callH_use (t10) ?_ | refine pureQ_use (t10) ?_) | (with_reducible first | refine callH_use (t11) ?_ | refine pureQ_use (t11) ?_) | (with_reducible first | refine callH_use (head_15) ?_ | refine pureQ_use (head_15) ?_)))
      · simp only [v_liverylaw15_FitTakes, ↓vD, vU, ↓vMd, vMu, vZ, seval, k_app, k_slc1]
        (repeat' (first | (simp (maxDischargeDepth := 16) only [*, q0, q3, y0, y1, vX, ↓vD, vU, ↓vMd, vMu, vZ, seval]) | (simp (disch := first | assumption | omega | rfl | exact fun _ => rfl) only [q0, q3, y0, y1, vP]) | ((with_reducible first | apply gsnd | apply csnd | apply gsd | apply csd | apply gsn | apply csn | apply gs | apply cs_) <;> intro _) | (with_reducible refine objQ_i (fun _ _ => ?_); repeat with_reducible refine imp_i (fun _ => ?_)) | (with_reducible first | refine callH_use (a1) ?_ | refine pureQ_use (a1) ?_) | (with_reducible first | refine callH_use (b1) ?_ | refine pureQ_use (b1) ?_) | (with_reducible first | refine callH_use (b2) ?_ | refine pureQ_use (b2) ?_) | (with_reducible first | refine callH_use (b3) ?_ | refine pureQ_use (b3) ?_) | (with_reducible first | refine callH_use (b4) ?_ | refine pureQ_use (b4) ?_) | (with_reducible first | refine callH_use (a2) ?_ | refine pureQ_use (a2) ?_) | (with_reducible first | refine callH_use (t10) ?_ | refine pureQ_use (t10) ?_) | (with_reducible first | refine callH_use (t11) ?_ | refine pureQ_use (t11) ?_) | (with_reducible first | refine callH_use (head_15) ?_ | refine pureQ_use (head_15) ?_)))
end Go.Proofs.YtglekfgoadehbaaDoor.V
end
section
set_option linter.unusedSimpArgs false
set_option linter.unusedVariables false
/- FitTakes, as the row hands it in. -/
namespace Go.Proofs.YtglekfgoadehbaaDoor.V
open Go Go.Proofs
theorem fitTakes_r (f : List Seg) (_ : ∀ x ∈ f, wfSeg x) (hl : (f.length : Int) ≤ 9223372036854775807) (x : Ask15) (_ : True) (u : Int × Int) (hu : (0 ≤ u.1 ∧ u.1 ≤ 65535) ∧ 0 ≤ u.2 ∧ u.2 ≤ 65535) : VPure Tryd.prog 4 [.sl (f.map Seg.a) .no, x.a, arr2h u] (.bool true) :=
  fitTakes_v f hl x.n x.d x.v u.1 u.2 hu.1 hu.2
end Go.Proofs.YtglekfgoadehbaaDoor.V
end
section
set_option linter.unusedSimpArgs false
set_option linter.unusedVariables false
/- FitLess, walked. -/
namespace Go.Proofs.YtglekfgoadehbaaDoor.V
open Go Go.Proofs
set_option maxRecDepth 100000
set_option maxHeartbeats 8000000
theorem fitLess_v (c l o : List Seg) (ps : List Pol) (a : Int) (hc : (c.length : Int) ≤ 9223372036854775807) (hl : (l.length : Int) ≤ 9223372036854775807) (ho : (o.length : Int) ≤ 9223372036854775807) (hp : (ps.length : Int) ≤ 9223372036854775807) (hk : ∀ p ∈ ps, 0 ≤ p.k) (m : List Seg) (hm : (m.length : Int) ≤ 9223372036854775807) (p : Pol) (hk' : 0 ≤ p.k) :
    VPure Tryd.prog 5 [caseA c l o ps a, .sl (m.map Seg.a) .no, p.a] (.bool true) := by
  refine VPure.of v_liverylaw15_FitLess_ok (Nat.le_of_ble_eq_true rfl) (fun Z st => ?_)
  have hG := great_15 c l o ps a
  cases hg : greatC c l o ps
  case true =>
    rw [hg] at hG
    simp only [v_liverylaw15_FitLess, caseA, Pol.a, ↓vD, vU, ↓vMd, vMu, vZ, seval, k_app, k_slc1]
    simp only [caseA] at hG
    (repeat' (first | (simp (maxDischargeDepth := 16) only [*, vX, ↓vD, vU, ↓vMd, vMu, vZ, seval]) | (simp (disch := first | assumption | omega | rfl | exact fun _ => rfl) only [vP]) | ((with_reducible first | apply gsnd | apply csnd | apply gsd | apply csd | apply gsn | apply csn | apply gs | apply cs_) <;> intro _) | (with_reducible refine objQ_i (fun _ _ => ?_); repeat with_reducible refine imp_i (fun _ => ?_)) | ((try with_reducible refine appK_a ?_); first | (with_reducible refine appD_F (by refine ⟨?_, ?_, ?_, ?_⟩ <;> (first | assumption | omega | exact St.has_add (by assumption) | (simp only [ins_has]; exact St.has_add (by assumption)) | (simp only [ins_has, fresh_ins, kill_ins, add_ins] at *; exact St.has_add (by assumption)) | (simp only [*, ins_has, has_full, St.has_add]; done) | (simp [-List.map_take, -List.map_drop, or_imp, forall_and, Seg.a, Vec.a, Leg.a, num, okEl, cells_agg, cells_int, cells_sl, cells_bool, AV.isCell]; done) | (simp; omega))) (fun _ _ => ?_)) | (with_reducible refine appD_V (by refine ⟨?_, ?_, ?_, ?_, ?_⟩ <;> (first | assumption | omega | exact St.has_add (by assumption) | (simp only [ins_has]; exact St.has_add (by assumption)) | (simp only [ins_has, fresh_ins, kill_ins, add_ins] at *; exact St.has_add (by assumption)) | (simp only [*, ins_has, has_full, St.has_add]; done) | (simp [-List.map_take, -List.map_drop, or_imp, forall_and, Seg.a, Vec.a, Leg.a, num, okEl, cells_agg, cells_int, cells_sl, cells_bool, AV.isCell]; done) | (simp; omega))) (fun _ _ => ?_))) | (with_reducible refine freshQ_i (fun _ _ => ?_)) | (with_reducible first | refine callH_use (hG) ?_ | refine pureQ_use (hG) ?_) | (with_reducible first | refine callH_use (head_15) ?_ | refine pureQ_use (head_15) ?_)))
  rw [hg] at hG
  obtain ⟨g1, g2, g3, g4⟩ := great_no hg
  clear hg
  by_cases hm40 : 40 < m.length
  · simp only [v_liverylaw15_FitLess, caseA, Pol.a, ↓vD, vU, ↓vMd, vMu, vZ, seval, k_app, k_slc1]
    simp only [caseA] at hG
    (repeat' (first | (simp (maxDischargeDepth := 16) only [*, vX, ↓vD, vU, ↓vMd, vMu, vZ, seval]) | (simp (disch := first | assumption | omega | rfl | exact fun _ => rfl) only [vP]) | ((with_reducible first | apply gsnd | apply csnd | apply gsd | apply csd | apply gsn | apply csn | apply gs | apply cs_) <;> intro _) | (with_reducible refine objQ_i (fun _ _ => ?_); repeat with_reducible refine imp_i (fun _ => ?_)) | ((try with_reducible refine appK_a ?_); first | (with_reducible refine appD_F (by refine ⟨?_, ?_, ?_, ?_⟩ <;> (first | assumption | omega | exact St.has_add (by assumption) | (simp only [ins_has]; exact St.has_add (by assumption)) | (simp only [ins_has, fresh_ins, kill_ins, add_ins] at *; exact St.has_add (by assumption)) | (simp only [*, ins_has, has_full, St.has_add]; done) | (simp [-List.map_take, -List.map_drop, or_imp, forall_and, Seg.a, Vec.a, Leg.a, num, okEl, cells_agg, cells_int, cells_sl, cells_bool, AV.isCell]; done) | (simp; omega))) (fun _ _ => ?_)) | (with_reducible refine appD_V (by refine ⟨?_, ?_, ?_, ?_, ?_⟩ <;> (first | assumption | omega | exact St.has_add (by assumption) | (simp only [ins_has]; exact St.has_add (by assumption)) | (simp only [ins_has, fresh_ins, kill_ins, add_ins] at *; exact St.has_add (by assumption)) | (simp only [*, ins_has, has_full, St.has_add]; done) | (simp [-List.map_take, -List.map_drop, or_imp, forall_and, Seg.a, Vec.a, Leg.a, num, okEl, cells_agg, cells_int, cells_sl, cells_bool, AV.isCell]; done) | (simp; omega))) (fun _ _ => ?_))) | (with_reducible refine freshQ_i (fun _ _ => ?_)) | (with_reducible first | refine callH_use (hG) ?_ | refine pureQ_use (hG) ?_) | (with_reducible first | refine callH_use (head_15) ?_ | refine pureQ_use (head_15) ?_)))
  have F0 := Free_v c l o (by omega) .no .no .no ps (by omega) hk .no a
  have n0 := freeF_len c l o ps a (by omega) (by omega)
  by_cases e0 : (freeF c l o ps a).2 = 0
  case neg =>
    have z := free_no e0
    rw [z] at F0
    obtain ⟨e, he⟩ : ∃ e, (freeF c l o ps a).2 = e := ⟨_, rfl⟩
    rw [he] at F0 e0
    clear he z n0
    simp only [v_liverylaw15_FitLess, caseA, Pol.a, ↓vD, vU, ↓vMd, vMu, vZ, seval, k_app, k_slc1]
    simp only [caseA] at hG
    (repeat' (first | (simp (maxDischargeDepth := 16) only [*, vX, ↓vD, vU, ↓vMd, vMu, vZ, seval]) | (simp (disch := first | assumption | omega | rfl | exact fun _ => rfl) only [vP]) | ((with_reducible first | apply gsnd | apply csnd | apply gsd | apply csd | apply gsn | apply csn | apply gs | apply cs_) <;> intro _) | (with_reducible refine objQ_i (fun _ _ => ?_); repeat with_reducible refine imp_i (fun _ => ?_)) | ((try with_reducible refine appK_a ?_); first | (with_reducible refine appD_F (by refine ⟨?_, ?_, ?_, ?_⟩ <;> (first | assumption | omega | exact St.has_add (by assumption) | (simp only [ins_has]; exact St.has_add (by assumption)) | (simp only [ins_has, fresh_ins, kill_ins, add_ins] at *; exact St.has_add (by assumption)) | (simp only [*, ins_has, has_full, St.has_add]; done) | (simp [-List.map_take, -List.map_drop, or_imp, forall_and, Seg.a, Vec.a, Leg.a, num, okEl, cells_agg, cells_int, cells_sl, cells_bool, AV.isCell]; done) | (simp; omega))) (fun _ _ => ?_)) | (with_reducible refine appD_V (by refine ⟨?_, ?_, ?_, ?_, ?_⟩ <;> (first | assumption | omega | exact St.has_add (by assumption) | (simp only [ins_has]; exact St.has_add (by assumption)) | (simp only [ins_has, fresh_ins, kill_ins, add_ins] at *; exact St.has_add (by assumption)) | (simp only [*, ins_has, has_full, St.has_add]; done) | (simp [-List.map_take, -List.map_drop, or_imp, forall_and, Seg.a, Vec.a, Leg.a, num, okEl, cells_agg, cells_int, cells_sl, cells_bool, AV.isCell]; done) | (simp; omega))) (fun _ _ => ?_))) | (with_reducible refine freshQ_i (fun _ _ => ?_)) | (with_reducible first | refine callH_use (hG) ?_ | refine pureQ_use (hG) ?_) | (with_reducible first | refine callH_use (F0) ?_ | refine pureQ_use (F0) ?_) | (with_reducible first | refine callH_use (head_15) ?_ | refine pureQ_use (head_15) ?_)))
    all_goals trace_state
  have F1 := fun t => Free_v c l o (by omega) .no .no .no ps.reverse (by simp; omega) (fun q hq => hk q (List.mem_reverse.1 hq)) t a
  have F2 := fun t => Free_v c l o (by omega) .no .no .no (ps ++ [p]) (by simp; omega) (fun q hq => by rcases List.mem_append.1 hq with h | h; exact hk q h; simp at h; subst h; exact hk') t a
  have M1 := Max_c l m (by omega) (by omega) .no .no
  have M2 := Min_c c m (by omega) (by omega) .no .no
  rw [max_do] at M1
  rw [min_do] at M2
  have l1 := doR_len 3 l m
  have l2 := doR_len 2 c m
  have F3 := Free_v c (doR 3 l m).1 o (by omega) .no .no .no ps (by omega) hk .no a
  have F4 := Free_v (doR 2 c m).1 l o (by omega) .no .no .no ps (by omega) hk .no a
  have n2 := freeF_len c l o (ps ++ [p]) a (by omega) (by simp; omega)
  have n3 := freeF_len c (doR 3 l m).1 o ps a (by omega) (by omega)
  have n4 := freeF_len (doR 2 c m).1 l o ps a (by omega) (by omega)
  rw [free_turn e0] at F1
  have B2 := below_15 (freeF c l o (ps ++ [p]) a).1 (freeF c l o ps a).1 (by omega) (by omega)
  have B3 := below_15 (freeF c (doR 3 l m).1 o ps a).1 (freeF c l o ps a).1 (by omega) (by omega)
  have B4 := below_15 (freeF (doR 2 c m).1 l o ps a).1 (freeF c l o ps a).1 (by omega) (by omega)
  have SM := Same_2 (freeF c l o ps a).1 (freeF c l o ps a).1 (by omega) .no .no
  have S' : sameF (freeF c l o ps a).1 (freeF c l o ps a).1 = true := by unfold sameF; simp
  rw [S'] at SM
  have T2 : (freeF c l o (ps ++ [p]) a).2 = 0 → ((leR (freeF c l o (ps ++ [p]) a).1 (freeF c l o ps a).1 (-1125899906842624)).2.1 && decide ((leR (freeF c l o (ps ++ [p]) a).1 (freeF c l o ps a).1 (-1125899906842624)).2.2 = 0)) = true := fun h => by rw [free_more e0 h]; rfl
  have T3 : (doR 3 l m).2 = 0 → (freeF c (doR 3 l m).1 o ps a).2 = 0 → ((leR (freeF c (doR 3 l m).1 o ps a).1 (freeF c l o ps a).1 (-1125899906842624)).2.1 && decide ((leR (freeF c (doR 3 l m).1 o ps a).1 (freeF c l o ps a).1 (-1125899906842624)).2.2 = 0)) = true := fun h h' => by rw [free_load e0 h h']; rfl
  have T4 : (doR 2 c m).2 = 0 → (freeF (doR 2 c m).1 l o ps a).2 = 0 → ((leR (freeF (doR 2 c m).1 l o ps a).1 (freeF c l o ps a).1 (-1125899906842624)).2.1 && decide ((leR (freeF (doR 2 c m).1 l o ps a).1 (freeF c l o ps a).1 (-1125899906842624)).2.2 = 0)) = true := fun h h' => by rw [free_cap e0 h h']; rfl
  obtain ⟨b2, q2⟩ : ∃ b, ((leR (freeF c l o (ps ++ [p]) a).1 (freeF c l o ps a).1 (-1125899906842624)).2.1 && decide ((leR (freeF c l o (ps ++ [p]) a).1 (freeF c l o ps a).1 (-1125899906842624)).2.2 = 0)) = b := ⟨_, rfl⟩
  obtain ⟨b3, q3⟩ : ∃ b, ((leR (freeF c (doR 3 l m).1 o ps a).1 (freeF c l o ps a).1 (-1125899906842624)).2.1 && decide ((leR (freeF c (doR 3 l m).1 o ps a).1 (freeF c l o ps a).1 (-1125899906842624)).2.2 = 0)) = b := ⟨_, rfl⟩
  obtain ⟨b4, q4⟩ : ∃ b, ((leR (freeF (doR 2 c m).1 l o ps a).1 (freeF c l o ps a).1 (-1125899906842624)).2.1 && decide ((leR (freeF (doR 2 c m).1 l o ps a).1 (freeF c l o ps a).1 (-1125899906842624)).2.2 = 0)) = b := ⟨_, rfl⟩
  rw [q2] at T2 B2
  rw [q3] at T3 B3
  rw [q4] at T4 B4
  clear q2 q3 q4
  clear S' n0 n2 n3 n4
  rw [e0] at F0 F1
  obtain ⟨F, hF⟩ : ∃ F, (freeF c l o ps a).1 = F := ⟨_, rfl⟩
  rw [hF] at F0 F1 B2 B3 B4 SM
  obtain ⟨⟨U, u⟩, hU⟩ : ∃ w, freeF c l o (ps ++ [p]) a = w := ⟨_, rfl⟩
  rw [hU] at F2 T2 B2
  obtain ⟨⟨L, x⟩, hL⟩ : ∃ w, doR 3 l m = w := ⟨_, rfl⟩
  rw [hL] at M1 F3 T3 B3
  obtain ⟨⟨V, y⟩, hV⟩ : ∃ w, freeF c L o ps a = w := ⟨_, rfl⟩
  simp only at F3 T3 M1 B3
  rw [hV] at F3 T3 B3
  obtain ⟨⟨C, z⟩, hC⟩ : ∃ w, doR 2 c m = w := ⟨_, rfl⟩
  rw [hC] at M2 F4 T4 B4
  obtain ⟨⟨W, w⟩, hW⟩ : ∃ w, freeF C l o ps a = w := ⟨_, rfl⟩
  simp only at F4 T4 M2 B4
  rw [hW] at F4 T4 B4
  simp only [num] at F0 F1 F2 F3 F4 M1 M2
  clear hF hU hL hV hC hW hk hk' e0
  have H2 := Hid.mk T2
  have H3 := Hid.mk T3
  have H4 := Hid.mk T4
  have HF1 := Hid.mk F1
  have HF2 := Hid.mk F2
  clear T2 T3 T4 F1 F2 l1 l2
  simp only [v_liverylaw15_FitLess, caseA, Pol.a, ↓vD, vU, ↓vMd, vMu, vZ, seval, k_app, k_slc1]
  simp only [caseA] at hG
  (repeat' (first | (simp (maxDischargeDepth := 16) only [*, vX, ↓vD, vU, ↓vMd, vMu, vZ, seval]) | (simp (disch := first | assumption | omega | rfl | exact fun _ => rfl) only [vP]) | ((with_reducible first | apply gsnd | apply csnd | apply gsd | apply csd | apply gsn | apply csn | apply gs | apply cs_) <;> intro _) | (with_reducible refine objQ_i (fun _ _ => ?_); repeat with_reducible refine imp_i (fun _ => ?_)) | ((try with_reducible refine appK_a ?_); first | (with_reducible refine appD_F (by refine ⟨?_, ?_, ?_, ?_⟩ <;> (first | assumption | omega | exact St.has_add (by assumption) | (simp only [ins_has]; exact St.has_add (by assumption)) | (simp only [ins_has, fresh_ins, kill_ins, add_ins] at *; exact St.has_add (by assumption)) | (simp only [*, ins_has, has_full, St.has_add]; done) | (simp [-List.map_take, -List.map_drop, or_imp, forall_and, Seg.a, Vec.a, Leg.a, num, okEl, cells_agg, cells_int, cells_sl, cells_bool, AV.isCell]; done) | (simp; omega))) (fun _ _ => ?_)) | (with_reducible refine appD_V (by refine ⟨?_, ?_, ?_, ?_, ?_⟩ <;> (first | assumption | omega | exact St.has_add (by assumption) | (simp only [ins_has]; exact St.has_add (by assumption)) | (simp only [ins_has, fresh_ins, kill_ins, add_ins] at *; exact St.has_add (by assumption)) | (simp only [*, ins_has, has_full, St.has_add]; done) | (simp [-List.map_take, -List.map_drop, or_imp, forall_and, Seg.a, Vec.a, Leg.a, num, okEl, cells_agg, cells_int, cells_sl, cells_bool, AV.isCell]; done) | (simp; omega))) (fun _ _ => ?_))) | (with_reducible refine freshQ_i (fun _ _ => ?_)) | (with_reducible first | refine callH_use (hG) ?_ | refine pureQ_use (hG) ?_) | (with_reducible first | refine callH_use (F0) ?_ | refine pureQ_use (F0) ?_) | (with_reducible first | refine callH_use (head_15) ?_ | refine pureQ_use (head_15) ?_)))
  (rename_i b6 hb6 b5 hb5 n_b5_b6 n_b6_b5)
  obtain ⟨S, hS⟩ : ∃ S, (st.ins b6 (.cells [.sl (c.map Seg.a) .no, .sl (l.map Seg.a) .no, .sl (o.map Seg.a) .no, .sl (ps.map Pol.a) .no, .int .i64 a])).ins b5 (.cells [.int .u8 p.k, .int .i64 p.cap.m, .int .i64 p.cap.c, .int .i64 p.win]) = S := ⟨_, rfl⟩
  have h4 : S.objs b6 = some (.cells [.sl (c.map Seg.a) .no, .sl (l.map Seg.a) .no, .sl (o.map Seg.a) .no, .sl (ps.map Pol.a) .no, .int .i64 a]) := by rw [← hS]; simp only [St.ins, *, if_true, if_false]
  have h5 : S.objs b5 = some (.cells [.int .u8 p.k, .int .i64 p.cap.m, .int .i64 p.cap.c, .int .i64 p.win]) := by rw [← hS]; simp only [St.ins, *, if_true, if_false]
  have hle : st.le S := by rw [← hS]; (refine ⟨fun i o e => ?_, fun _ h => h⟩; revert e; simp only [St.ins, St.del, add_objs, kill_objs]; (repeat' split); all_goals (first | exact id | (intros; contradiction) | (intros; subst_vars; contradiction) | (intros; simp_all; done) | (intros; subst_vars; simp_all; done)))
  rw [hS]
  have HLE := Hid.mk hle
  have HH := Hid.mk (And.intro h4 h5)
  clear hle hS h4 h5
  refine loopf_of (len := ps.length) (by simp only [asgL, dsts, List.cons_append, List.nil_append, List.append_nil]; rfl) (by simp only [noR, Bool.and_true, Bool.and_false]; rfl) (by omega) (fun k fr s => ∃ t', Ours 4 S s t' ∧ fr.t 10 = .int .i64 ((ps.length : Int) - 1 - k) ∧ fr.t 9 = .sl ((ps.reverse.take k).map Pol.a) t') ?_ ?_ ?_
  · exact ⟨.full, Ours.full 4 S, by simp [↓vD, vU, ↓vMd, vMu, vZ, seval, k_app, k_slc1], by simp [↓vD, vU, ↓vMd, vMu, vZ, seval, k_app, k_slc1]⟩
  · rintro k fr s hk hw hf hd ⟨t', ho, h10, h9⟩
    have hts := ho.has
    have h4 := HH.out.1
    rw [← ho.objs] at h4
    have hlen : (ps.reverse.take k).length ≤ 10 := by rw [List.length_take, List.length_reverse]; omega
    obtain ⟨j, hj⟩ : ∃ j : Nat, j + k + 1 = ps.length := ⟨ps.length - k - 1, by omega⟩
    rw [show (ps.length : Int) - 1 - k = (j : Int) by omega] at h10
    have hjl : j < ps.length := by omega
    have hdec : IntKind.i64.wrap ((j : Int) - 1) = (j : Int) - 1 := wrap_i64 _ (by omega) (by omega)
    have hn : (ps.reverse.take (k + 1)).map Pol.a = (ps.reverse.take k).map Pol.a ++ [Pol.a ps[j]] := by
      rw [List.take_add_one, List.getElem?_eq_getElem (by simpa using hk), List.map_append, List.getElem_reverse]
      simp only [Option.toList, List.map_cons, List.map_nil]
      congr 4; omega
    rw [hn]
    have hi : ((ps.length : Int) - 1 - ((k + 1 : Nat) : Int)) = (j : Int) - 1 := by omega
    rw [hi]
    have HJ := Hid.mk hj
    clear hn hi hj
    have h4' := fun o n g => e_ldh h4 o n g
    clear h4
    (repeat' (first | (simp (maxDischargeDepth := 16) only [*, Pol.a, vX, ↓vD, vU, ↓vMd, vMu, vZ, seval]) | (simp (disch := first | assumption | omega | rfl | exact fun _ => rfl) only [Pol.a, vP]) | ((with_reducible first | apply gsnd | apply csnd | apply gsd | apply csd | apply gsn | apply csn | apply gs | apply cs_) <;> intro _) | (with_reducible refine objQ_i (fun _ _ => ?_); repeat with_reducible refine imp_i (fun _ => ?_)) | ((try with_reducible refine appK_a ?_); first | (with_reducible refine appD_F (by refine ⟨?_, ?_, ?_, ?_⟩ <;> (first | assumption | omega | exact St.has_add (by assumption) | (simp only [ins_has]; exact St.has_add (by assumption)) | (simp only [ins_has, fresh_ins, kill_ins, add_ins] at *; exact St.has_add (by assumption)) | (simp only [*, ins_has, has_full, St.has_add]; done) | (simp [-List.map_take, -List.map_drop, or_imp, forall_and, Seg.a, Vec.a, Leg.a, num, okEl, cells_agg, cells_int, cells_sl, cells_bool, AV.isCell, Pol.a]; done) | (simp; omega))) (fun _ _ => ?_)) | (with_reducible refine appD_V (by refine ⟨?_, ?_, ?_, ?_, ?_⟩ <;> (first | assumption | omega | exact St.has_add (by assumption) | (simp only [ins_has]; exact St.has_add (by assumption)) | (simp only [ins_has, fresh_ins, kill_ins, add_ins] at *; exact St.has_add (by assumption)) | (simp only [*, ins_has, has_full, St.has_add]; done) | (simp [-List.map_take, -List.map_drop, or_imp, forall_and, Seg.a, Vec.a, Leg.a, num, okEl, cells_agg, cells_int, cells_sl, cells_bool, AV.isCell, Pol.a]; done) | (simp; omega))) (fun _ _ => ?_))) | (with_reducible refine freshQ_i (fun _ _ => ?_))))
    exact ⟨_, St.le.refl _, _, ho.next (by assumption), rfl⟩
  · rintro fr s hf hd ⟨t', ho, h10, h9⟩
    rw [List.take_of_length_le (by simp)] at h9
    have F1 := HF1.out t'
    have F2 := HF2.out
    simp only [List.map_append, List.map_cons, List.map_nil, Pol.a] at F2
    have h4 := HH.out.1
    have h5 := HH.out.2
    rw [← ho.objs] at h4 h5
    rw [show (ps.length : Int) - 1 - (ps.length : Nat) = -1 by omega] at h10
    have h4' := fun o n g => e_ldh h4 o n g
    have h5' := fun o n g => e_ldh h5 o n g
    clear h4 h5
    (repeat' (first | (simp (maxDischargeDepth := 16) only [*, Pol.a, vload_add, vload_kill, vX, ↓vD, vU, ↓vMd, vMu, vZ, seval]) | (simp (disch := first | assumption | omega | rfl | exact fun _ => rfl) only [Pol.a, vload_add, vload_kill, vP]) | ((with_reducible first | apply gsnd | apply csnd | apply gsd | apply csd | apply gsn | apply csn | apply gs | apply cs_) <;> intro _) | (with_reducible refine objQ_i (fun _ _ => ?_); repeat with_reducible refine imp_i (fun _ => ?_)) | ((try with_reducible refine appK_a ?_); first | (with_reducible refine appD_F (by refine ⟨?_, ?_, ?_, ?_⟩ <;> (first | assumption | omega | exact St.has_add (by assumption) | (simp only [ins_has]; exact St.has_add (by assumption)) | (simp only [ins_has, fresh_ins, kill_ins, add_ins] at *; exact St.has_add (by assumption)) | (simp only [*, ins_has, has_full, St.has_add]; done) | (simp [-List.map_take, -List.map_drop, or_imp, forall_and, Seg.a, Vec.a, Leg.a, num, okEl, cells_agg, cells_int, cells_sl, cells_bool, AV.isCell, Pol.a]; done) | (simp; omega))) (fun _ _ => ?_)) | (with_reducible refine appD_V (by refine ⟨?_, ?_, ?_, ?_, ?_⟩ <;> (first | assumption | omega | exact St.has_add (by assumption) | (simp only [ins_has]; exact St.has_add (by assumption)) | (simp only [ins_has, fresh_ins, kill_ins, add_ins] at *; exact St.has_add (by assumption)) | (simp only [*, ins_has, has_full, St.has_add]; done) | (simp [-List.map_take, -List.map_drop, or_imp, forall_and, Seg.a, Vec.a, Leg.a, num, okEl, cells_agg, cells_int, cells_sl, cells_bool, AV.isCell, Pol.a]; done) | (simp; omega))) (fun _ _ => ?_))) | (with_reducible refine freshQ_i (fun _ _ => ?_)) | (with_reducible first | refine callH_use (F1) ?_ | refine pureQ_use (F1) ?_) | (with_reducible first | refine callH_use (SM) ?_ | refine pureQ_use (SM) ?_) | (with_reducible first | refine callH_use (F2 _) ?_ | refine pureQ_use (F2 _) ?_) | (with_reducible first | refine callH_use (B2) ?_ | refine pureQ_use (B2) ?_) | (with_reducible first | refine callH_use (M1) ?_ | refine pureQ_use (M1) ?_) | (with_reducible first | refine callH_use (F3) ?_ | refine pureQ_use (F3) ?_) | (with_reducible first | refine callH_use (B3) ?_ | refine pureQ_use (B3) ?_) | (with_reducible first | refine callH_use (M2) ?_ | refine pureQ_use (M2) ?_) | (with_reducible first | refine callH_use (F4) ?_ | refine pureQ_use (F4) ?_) | (with_reducible first | refine callH_use (B4) ?_ | refine pureQ_use (B4) ?_) | (with_reducible first | refine callH_use (head_15) ?_ | refine pureQ_use (head_15) ?_)))
    all_goals first
      | done
      | (refine St.le.trans (HLE.out.trans ho.under) ?_; clear hf hd h9 h10 h4' h5'; ((try clear hfr); (try clear hfr2); (try clear hfr3); (try clear hf); (try clear hf2); (try clear hd); (try clear hd2); (try clear hd3); (try simp only [fresh_ins, kill_ins, add_ins] at *); (repeat' (first | exact St.le.refl _ | (with_reducible refine le_ins_new ?_ _ (by assumption)) | (with_reducible refine St.le.trans ?_ (add_kill_le (by assumption))) | (with_reducible refine le_add_t _ ?_)))); done)
      | (exact absurd (H2.out (eq_of_beq (by assumption : (u == 0) = true))) (by rw [(by assumption : b2 = false)]; decide))
      | (exact absurd (H3.out (eq_of_beq (by assumption : (x == 0) = true)) (eq_of_beq (by assumption : (y == 0) = true))) (by rw [(by assumption : b3 = false)]; decide))
      | (exact absurd (H4.out (by simpa using (by assumption : (z != 0) = false)) (by simpa using (by assumption : (w != 0) = false))) (by rw [(by assumption : b4 = false)]; decide))
end Go.Proofs.YtglekfgoadehbaaDoor.V
end
