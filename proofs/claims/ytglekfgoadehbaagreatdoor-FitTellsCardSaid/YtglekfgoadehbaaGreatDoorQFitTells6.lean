/- Texts of this claim, joined: C15t, O15t. -/
import Derived.Test.YtglekfgoadehbaaGreatDoorQFitTells5
set_option linter.unusedSimpArgs false
set_option linter.unusedVariables false
section
/- liveryref15: bad, Fits, Take, Units; FitTells, walked. -/
namespace Go.Proofs.YtglekfgoadehbaaGreatDoor.V
open Go Go.Proofs
set_option maxRecDepth 100000
set_option maxHeartbeats 8000000
theorem bad_15 (f : List Seg) (hf : f.length ≤ 1000000) (n d : Int) (v : Vec) : VPure Tryz.prog 18 [.sl (f.map Seg.a) .no, .int .i64 n, .int .i64 d, .agg [.int .i64 v.m, .int .i64 v.c]] (.int .i64 (winE f n d v)) := by
  refine VPure.of v_liveryref15_bad_ok (Nat.le_of_ble_eq_true rfl) (fun Z st => ?_)
  have h1 := May_2 f (by omega) .no
  have h2 := May_1 v.m v.c
  have HW : Hid (winE f n d v = if mayF f then (if d < 1 ∨ 4096 < d then 2 else if farF n || !mayV v then 10 else 0) else 5) := ⟨rfl⟩
  rw [show (⟨v.m, v.c⟩ : Vec) = v from rfl] at h2
  obtain ⟨a, ha⟩ : ∃ a, mayF f = a := ⟨_, rfl⟩
  obtain ⟨b, hb⟩ : ∃ a, mayV v = a := ⟨_, rfl⟩
  rw [ha, hb] at HW
  rw [ha] at h1
  rw [hb] at h2
  clear ha hb
  rw [HW.out]
  clear HW
  cases a
  · simp only [v_liveryref15_bad, ↓vD, vU, ↓vMd, vMu, vZ, seval, k_app, k_slc1]
    (repeat' (first | (simp (maxDischargeDepth := 16) only [*, vX, ↓vD, vU, ↓vMd, vMu, vZ, seval]) | (simp (disch := first | assumption | omega | rfl | exact fun _ => rfl) only [vP]) | ((with_reducible first | apply gsnd | apply csnd | apply gsd | apply csd | apply gsn | apply csn | apply gs | apply cs_) <;> intro _) | (with_reducible refine objQ_i (fun _ _ => ?_); repeat with_reducible refine imp_i (fun _ => ?_)) | (with_reducible first | refine callH_use (h1) ?_ | refine pureQ_use (h1) ?_) | (with_reducible first | refine callH_use (h2) ?_ | refine pureQ_use (h2) ?_)))
    all_goals first | done | rfl | trace_state
  by_cases d1 : d < 1
  · rw [if_pos rfl, if_pos (.inl d1)]
    simp only [v_liveryref15_bad, ↓vD, vU, ↓vMd, vMu, vZ, seval, k_app, k_slc1]
    (repeat' (first | (simp (maxDischargeDepth := 16) only [*, vX, ↓vD, vU, ↓vMd, vMu, vZ, seval]) | (simp (disch := first | assumption | omega | rfl | exact fun _ => rfl) only [vP]) | ((with_reducible first | apply gsnd | apply csnd | apply gsd | apply csd | apply gsn | apply csn | apply gs | apply cs_) <;> intro _) | (with_reducible refine objQ_i (fun _ _ => ?_); repeat with_reducible refine imp_i (fun _ => ?_)) | (with_reducible first | refine callH_use (h1) ?_ | refine pureQ_use (h1) ?_) | (with_reducible first | refine callH_use (h2) ?_ | refine pureQ_use (h2) ?_)))
    all_goals first | done | rfl | trace_state
  by_cases d2 : 4096 < d
  · rw [if_pos rfl, if_pos (.inr d2)]
    simp only [v_liveryref15_bad, ↓vD, vU, ↓vMd, vMu, vZ, seval, k_app, k_slc1]
    (repeat' (first | (simp (maxDischargeDepth := 16) only [*, vX, ↓vD, vU, ↓vMd, vMu, vZ, seval]) | (simp (disch := first | assumption | omega | rfl | exact fun _ => rfl) only [vP]) | ((with_reducible first | apply gsnd | apply csnd | apply gsd | apply csd | apply gsn | apply csn | apply gs | apply cs_) <;> intro _) | (with_reducible refine objQ_i (fun _ _ => ?_); repeat with_reducible refine imp_i (fun _ => ?_)) | (with_reducible first | refine callH_use (h1) ?_ | refine pureQ_use (h1) ?_) | (with_reducible first | refine callH_use (h2) ?_ | refine pureQ_use (h2) ?_)))
    all_goals first | done | rfl | trace_state
  rw [if_pos rfl, if_neg (by omega)]
  by_cases n1 : n < -1099511627776
  · have : farF n = true := by simp [farF, n1]
    rw [this]
    clear this
    simp only [v_liveryref15_bad, ↓vD, vU, ↓vMd, vMu, vZ, seval, k_app, k_slc1]
    (repeat' (first | (simp (maxDischargeDepth := 16) only [*, vX, ↓vD, vU, ↓vMd, vMu, vZ, seval]) | (simp (disch := first | assumption | omega | rfl | exact fun _ => rfl) only [vP]) | ((with_reducible first | apply gsnd | apply csnd | apply gsd | apply csd | apply gsn | apply csn | apply gs | apply cs_) <;> intro _) | (with_reducible refine objQ_i (fun _ _ => ?_); repeat with_reducible refine imp_i (fun _ => ?_)) | (with_reducible first | refine callH_use (h1) ?_ | refine pureQ_use (h1) ?_) | (with_reducible first | refine callH_use (h2) ?_ | refine pureQ_use (h2) ?_)))
    all_goals first | done | rfl | trace_state
  by_cases n2 : 1099511627776 < n
  · have : farF n = true := by simp [farF, n2]
    rw [this]
    clear this
    simp only [v_liveryref15_bad, ↓vD, vU, ↓vMd, vMu, vZ, seval, k_app, k_slc1]
    (repeat' (first | (simp (maxDischargeDepth := 16) only [*, vX, ↓vD, vU, ↓vMd, vMu, vZ, seval]) | (simp (disch := first | assumption | omega | rfl | exact fun _ => rfl) only [vP]) | ((with_reducible first | apply gsnd | apply csnd | apply gsd | apply csd | apply gsn | apply csn | apply gs | apply cs_) <;> intro _) | (with_reducible refine objQ_i (fun _ _ => ?_); repeat with_reducible refine imp_i (fun _ => ?_)) | (with_reducible first | refine callH_use (h1) ?_ | refine pureQ_use (h1) ?_) | (with_reducible first | refine callH_use (h2) ?_ | refine pureQ_use (h2) ?_)))
    all_goals first | done | rfl | trace_state
  have : farF n = false := by simp only [farF, n1, n2, decide_false, Bool.or_false]
  rw [this]
  clear this
  cases b
  · simp only [v_liveryref15_bad, ↓vD, vU, ↓vMd, vMu, vZ, seval, k_app, k_slc1]
    (repeat' (first | (simp (maxDischargeDepth := 16) only [*, vX, ↓vD, vU, ↓vMd, vMu, vZ, seval]) | (simp (disch := first | assumption | omega | rfl | exact fun _ => rfl) only [vP]) | ((with_reducible first | apply gsnd | apply csnd | apply gsd | apply csd | apply gsn | apply csn | apply gs | apply cs_) <;> intro _) | (with_reducible refine objQ_i (fun _ _ => ?_); repeat with_reducible refine imp_i (fun _ => ?_)) | (with_reducible first | refine callH_use (h1) ?_ | refine pureQ_use (h1) ?_) | (with_reducible first | refine callH_use (h2) ?_ | refine pureQ_use (h2) ?_)))
    all_goals first | done | rfl | trace_state
  · simp only [v_liveryref15_bad, ↓vD, vU, ↓vMd, vMu, vZ, seval, k_app, k_slc1]
    (repeat' (first | (simp (maxDischargeDepth := 16) only [*, vX, ↓vD, vU, ↓vMd, vMu, vZ, seval]) | (simp (disch := first | assumption | omega | rfl | exact fun _ => rfl) only [vP]) | ((with_reducible first | apply gsnd | apply csnd | apply gsd | apply csd | apply gsn | apply csn | apply gs | apply cs_) <;> intro _) | (with_reducible refine objQ_i (fun _ _ => ?_); repeat with_reducible refine imp_i (fun _ => ?_)) | (with_reducible first | refine callH_use (h1) ?_ | refine pureQ_use (h1) ?_) | (with_reducible first | refine callH_use (h2) ?_ | refine pureQ_use (h2) ?_)))
    all_goals first | done | rfl | trace_state
theorem Fits_15 (f : List Seg) (hf : f.length ≤ 1000000) (n d : Int) (v : Vec) : VPure Tryz.prog 6 [.sl (f.map Seg.a) .no, .int .i64 n, .int .i64 d, .agg [.int .i64 v.m, .int .i64 v.c]] (.tup [.bool (fitsF f n d v).1, .int .i64 (fitsF f n d v).2]) := by
  refine VPure.of v_liveryref15_Fits_ok (Nat.le_of_ble_eq_true rfl) (fun Z st => ?_)
  have h1 := bad_15 f hf n d v
  by_cases h0 : winE f n d v = 0
  · obtain ⟨m1, d1, d2, _, _, n1, n2⟩ := win_ok h0
    have h2 := Into_15 f hf .no n d v (wrap_i64 _ (by omega) (by omega))
    have e : fitsF f n d v = (intoF f n d v, 0) := by unfold fitsF; rw [if_pos h0, into_low m1 n d d1 v]
    rw [e]
    rw [h0] at h1
    obtain ⟨b, hb⟩ : ∃ b, intoF f n d v = b := ⟨_, rfl⟩
    rw [hb] at h2 ⊢
    clear e hb h0 m1
    simp only [v_liveryref15_Fits, ↓vD, vU, ↓vMd, vMu, vZ, seval, k_app, k_slc1]
    (repeat' (first | (simp (maxDischargeDepth := 16) only [*, vX, ↓vD, vU, ↓vMd, vMu, vZ, seval]) | (simp (disch := first | assumption | omega | rfl | exact fun _ => rfl) only [vP]) | ((with_reducible first | apply gsnd | apply csnd | apply gsd | apply csd | apply gsn | apply csn | apply gs | apply cs_) <;> intro _) | (with_reducible refine objQ_i (fun _ _ => ?_); repeat with_reducible refine imp_i (fun _ => ?_)) | (with_reducible first | refine callH_use (h1) ?_ | refine pureQ_use (h1) ?_) | (with_reducible first | refine callH_use (h2) ?_ | refine pureQ_use (h2) ?_)))
    all_goals first | done | rfl | trace_state
  · have e : fitsF f n d v = (false, winE f n d v) := by unfold fitsF; rw [if_neg h0]
    rw [e]
    obtain ⟨w, hw⟩ : ∃ w, winE f n d v = w := ⟨_, rfl⟩
    rw [hw] at h0 h1 ⊢
    clear e hw
    simp only [v_liveryref15_Fits, ↓vD, vU, ↓vMd, vMu, vZ, seval, k_app, k_slc1]
    (repeat' (first | (simp (maxDischargeDepth := 16) only [*, vX, ↓vD, vU, ↓vMd, vMu, vZ, seval]) | (simp (disch := first | assumption | omega | rfl | exact fun _ => rfl) only [vP]) | ((with_reducible first | apply gsnd | apply csnd | apply gsd | apply csd | apply gsn | apply csn | apply gs | apply cs_) <;> intro _) | (with_reducible refine objQ_i (fun _ _ => ?_); repeat with_reducible refine imp_i (fun _ => ?_)) | (with_reducible first | refine callH_use (h1) ?_ | refine pureQ_use (h1) ?_)))
    all_goals first | done | rfl | trace_state
theorem Take_15 (f : List Seg) (hf : f.length ≤ 1000000) (n d : Int) (v : Vec) : VPure Tryz.prog 8 [.sl (f.map Seg.a) .no, .int .i64 n, .int .i64 d, .agg [.int .i64 v.m, .int .i64 v.c]] (.tup [.sl ((takeF f n d v).1.map Seg.a) .no, .int .i64 (takeF f n d v).2]) := by
  refine VPure.tokT (fun Z st => ?_)
  refine VCalls.of v_liveryref15_Take_ok (Nat.le_of_ble_eq_true rfl) ?_
  have h1 := bad_15 f hf n d v
  by_cases h0 : winE f n d v = 0
  · obtain ⟨m1, d1, d2, _, hv, n1, n2⟩ := win_ok h0
    have hv2 := (mayV_iff v).1 hv
    have hwr : IntKind.i64.wrap (n + d) = n + d := wrap_i64 _ (by omega) (by omega)
    have w1 : IntKind.i64.wrap (0 - v.m) = -v.m := by rw [wrap_i64 _ (by omega) (by omega)]; omega
    have w2 : IntKind.i64.wrap (0 - v.c) = -v.c := by rw [wrap_i64 _ (by omega) (by omega)]; omega
    have h2 := Range_3 f hf .no n (n + d) (-v.m) (-v.c)
    have e : takeF f n d v = rangeR f n (n + d) ⟨-v.m, -v.c⟩ := by unfold takeF; rw [if_pos h0, range_do]
    rw [e]
    rw [h0] at h1
    obtain ⟨w, hw⟩ : ∃ w, rangeR f n (n + d) ⟨-v.m, -v.c⟩ = w := ⟨_, rfl⟩
    rw [hw] at h2 ⊢
    simp only [num] at h2
    clear e hw h0 m1 hv hv2
    simp only [v_liveryref15_Take, ↓vD, vU, ↓vMd, vMu, vZ, seval, k_app, k_slc1]
    (repeat' (first | (simp (maxDischargeDepth := 16) only [*, vX, ↓vD, vU, ↓vMd, vMu, vZ, seval]) | (simp (disch := first | assumption | omega | rfl | exact fun _ => rfl) only [vP]) | ((with_reducible first | apply gsnd | apply csnd | apply gsd | apply csd | apply gsn | apply csn | apply gs | apply cs_) <;> intro _) | (with_reducible refine objQ_i (fun _ _ => ?_); repeat with_reducible refine imp_i (fun _ => ?_)) | (with_reducible first | refine callH_use (h1) ?_ | refine pureQ_use (h1) ?_) | (with_reducible first | refine callH_use (h2) ?_ | refine pureQ_use (h2) ?_)))
    all_goals first | done | exact ⟨_, rfl, rfl⟩ | exact ⟨_, by (refine ⟨fun i o e => ?_, fun _ h => h⟩; revert e; simp only [St.ins, St.del, add_objs, kill_objs]; (repeat' split); all_goals (first | exact id | (intros; contradiction) | (intros; subst_vars; contradiction) | (intros; simp_all; done) | (intros; subst_vars; simp_all; done))), _, rfl, rfl⟩ | trace_state
  · have e : takeF f n d v = ([], winE f n d v) := by unfold takeF; rw [if_neg h0]
    rw [e]
    obtain ⟨w, hw⟩ : ∃ w, winE f n d v = w := ⟨_, rfl⟩
    rw [hw] at h0 h1 ⊢
    clear e hw
    simp only [v_liveryref15_Take, ↓vD, vU, ↓vMd, vMu, vZ, seval, k_app, k_slc1]
    (repeat' (first | (simp (maxDischargeDepth := 16) only [*, vX, ↓vD, vU, ↓vMd, vMu, vZ, seval]) | (simp (disch := first | assumption | omega | rfl | exact fun _ => rfl) only [vP]) | ((with_reducible first | apply gsnd | apply csnd | apply gsd | apply csd | apply gsn | apply csn | apply gs | apply cs_) <;> intro _) | (with_reducible refine objQ_i (fun _ _ => ?_); repeat with_reducible refine imp_i (fun _ => ?_)) | (with_reducible first | refine callH_use (h1) ?_ | refine pureQ_use (h1) ?_)))
    all_goals first | done | exact ⟨_, rfl, rfl⟩ | exact ⟨_, by (refine ⟨fun i o e => ?_, fun _ h => h⟩; revert e; simp only [St.ins, St.del, add_objs, kill_objs]; (repeat' split); all_goals (first | exact id | (intros; contradiction) | (intros; subst_vars; contradiction) | (intros; simp_all; done) | (intros; subst_vars; simp_all; done))), _, rfl, rfl⟩ | trace_state
theorem Units_1 (v u : Vec) : VPure Tryz.prog 28 [.agg [.int .i64 v.m, .int .i64 v.c], .agg [.int .i64 u.m, .int .i64 u.c]] (.tup [.int .i64 (unitsE v u).1, .int .i64 (unitsE v u).2]) := by
  refine VPure.of v_liveryref01_Units_ok (Nat.le_of_ble_eq_true rfl) (fun Z st => ?_)
  have h1 := May_1 v.m v.c
  have h2 := May_1 u.m u.c
  rw [show (⟨v.m, v.c⟩ : Vec) = v from rfl] at h1
  rw [show (⟨u.m, u.c⟩ : Vec) = u from rfl] at h2
  by_cases u1 : u.m < 1
  · have e : unitsE v u = (0, 2) := by unfold unitsE; rw [if_pos (.inl u1)]
    rw [e]
    clear e
    simp only [v_liveryref01_Units, ↓vD, vU, ↓vMd, vMu, vZ, seval, k_app, k_slc1]
    (repeat' (first | (simp (maxDischargeDepth := 16) only [*, vX, ↓vD, vU, ↓vMd, vMu, vZ, seval]) | (simp (disch := first | assumption | omega | rfl | exact fun _ => rfl) only [vP]) | ((with_reducible first | apply gsnd | apply csnd | apply gsd | apply csd | apply gsn | apply csn | apply gs | apply cs_) <;> intro _) | (with_reducible refine objQ_i (fun _ _ => ?_); repeat with_reducible refine imp_i (fun _ => ?_)) | (with_reducible first | refine callH_use (h1) ?_ | refine pureQ_use (h1) ?_) | (with_reducible first | refine callH_use (h2) ?_ | refine pureQ_use (h2) ?_)))
    all_goals first | done | rfl | trace_state
  by_cases u2 : u.c < 1
  · have e : unitsE v u = (0, 2) := by unfold unitsE; rw [if_pos (.inr u2)]
    rw [e]
    clear e
    simp only [v_liveryref01_Units, ↓vD, vU, ↓vMd, vMu, vZ, seval, k_app, k_slc1]
    (repeat' (first | (simp (maxDischargeDepth := 16) only [*, vX, ↓vD, vU, ↓vMd, vMu, vZ, seval]) | (simp (disch := first | assumption | omega | rfl | exact fun _ => rfl) only [vP]) | ((with_reducible first | apply gsnd | apply csnd | apply gsd | apply csd | apply gsn | apply csn | apply gs | apply cs_) <;> intro _) | (with_reducible refine objQ_i (fun _ _ => ?_); repeat with_reducible refine imp_i (fun _ => ?_)) | (with_reducible first | refine callH_use (h1) ?_ | refine pureQ_use (h1) ?_) | (with_reducible first | refine callH_use (h2) ?_ | refine pureQ_use (h2) ?_)))
    all_goals first | done | rfl | trace_state
  cases hm : mayV v
  · have e : unitsE v u = (0, 10) := by unfold unitsE; rw [if_neg (by omega), hm]; rfl
    rw [e]
    rw [hm] at h1
    clear e hm
    simp only [v_liveryref01_Units, ↓vD, vU, ↓vMd, vMu, vZ, seval, k_app, k_slc1]
    (repeat' (first | (simp (maxDischargeDepth := 16) only [*, vX, ↓vD, vU, ↓vMd, vMu, vZ, seval]) | (simp (disch := first | assumption | omega | rfl | exact fun _ => rfl) only [vP]) | ((with_reducible first | apply gsnd | apply csnd | apply gsd | apply csd | apply gsn | apply csn | apply gs | apply cs_) <;> intro _) | (with_reducible refine objQ_i (fun _ _ => ?_); repeat with_reducible refine imp_i (fun _ => ?_)) | (with_reducible first | refine callH_use (h1) ?_ | refine pureQ_use (h1) ?_) | (with_reducible first | refine callH_use (h2) ?_ | refine pureQ_use (h2) ?_)))
    all_goals first | done | rfl | trace_state
  cases hm2 : mayV u
  · have e : unitsE v u = (0, 10) := by unfold unitsE; rw [if_neg (by omega), hm, hm2]; rfl
    rw [e]
    rw [hm] at h1
    rw [hm2] at h2
    clear e hm hm2
    simp only [v_liveryref01_Units, ↓vD, vU, ↓vMd, vMu, vZ, seval, k_app, k_slc1]
    (repeat' (first | (simp (maxDischargeDepth := 16) only [*, vX, ↓vD, vU, ↓vMd, vMu, vZ, seval]) | (simp (disch := first | assumption | omega | rfl | exact fun _ => rfl) only [vP]) | ((with_reducible first | apply gsnd | apply csnd | apply gsd | apply csd | apply gsn | apply csn | apply gs | apply cs_) <;> intro _) | (with_reducible refine objQ_i (fun _ _ => ?_); repeat with_reducible refine imp_i (fun _ => ?_)) | (with_reducible first | refine callH_use (h1) ?_ | refine pureQ_use (h1) ?_) | (with_reducible first | refine callH_use (h2) ?_ | refine pureQ_use (h2) ?_)))
    all_goals first | done | rfl | trace_state
  have e : unitsE v u = (unitsV v u, 0) := by unfold unitsE; rw [if_neg (by omega), hm, hm2]; rfl
  rw [e]
  have hv2 := (mayV_iff v).1 hm
  rw [hm] at h1
  rw [hm2] at h2
  clear e hm hm2
  unfold unitsV
  by_cases v1 : v.m < 0
  · rw [if_pos (.inl v1)]
    simp only [v_liveryref01_Units, ↓vD, vU, ↓vMd, vMu, vZ, seval, k_app, k_slc1]
    (repeat' (first | (simp (maxDischargeDepth := 16) only [*, vX, ↓vD, vU, ↓vMd, vMu, vZ, seval]) | (simp (disch := first | assumption | omega | rfl | exact fun _ => rfl) only [vP]) | ((with_reducible first | apply gsnd | apply csnd | apply gsd | apply csd | apply gsn | apply csn | apply gs | apply cs_) <;> intro _) | (with_reducible refine objQ_i (fun _ _ => ?_); repeat with_reducible refine imp_i (fun _ => ?_)) | (with_reducible first | refine callH_use (h1) ?_ | refine pureQ_use (h1) ?_) | (with_reducible first | refine callH_use (h2) ?_ | refine pureQ_use (h2) ?_)))
    all_goals first | done | rfl | trace_state
  by_cases v2 : v.c < 0
  · rw [if_pos (.inr v2)]
    simp only [v_liveryref01_Units, ↓vD, vU, ↓vMd, vMu, vZ, seval, k_app, k_slc1]
    (repeat' (first | (simp (maxDischargeDepth := 16) only [*, vX, ↓vD, vU, ↓vMd, vMu, vZ, seval]) | (simp (disch := first | assumption | omega | rfl | exact fun _ => rfl) only [vP]) | ((with_reducible first | apply gsnd | apply csnd | apply gsd | apply csd | apply gsn | apply csn | apply gs | apply cs_) <;> intro _) | (with_reducible refine objQ_i (fun _ _ => ?_); repeat with_reducible refine imp_i (fun _ => ?_)) | (with_reducible first | refine callH_use (h1) ?_ | refine pureQ_use (h1) ?_) | (with_reducible first | refine callH_use (h2) ?_ | refine pureQ_use (h2) ?_)))
    all_goals first | done | rfl | trace_state
  rw [if_neg (by omega)]
  have e1 := quo_v (x := v.m) (y := u.m) (by omega) (by omega) (by omega)
  have e2 := quo_v (x := v.c) (y := u.c) (by omega) (by omega) (by omega)
  clear hv2
  simp only [v_liveryref01_Units, ↓vD, vU, ↓vMd, vMu, vZ, seval, k_app, k_slc1]
  (repeat' (first | (simp (maxDischargeDepth := 16) only [*, e1, e2, vX, ↓vD, vU, ↓vMd, vMu, vZ, seval]) | (simp (disch := first | assumption | omega | rfl | exact fun _ => rfl) only [e1, e2, vP]) | ((with_reducible first | apply gsnd | apply csnd | apply gsd | apply csd | apply gsn | apply csn | apply gs | apply cs_) <;> intro _) | (with_reducible refine objQ_i (fun _ _ => ?_); repeat with_reducible refine imp_i (fun _ => ?_)) | (with_reducible first | refine callH_use (h1) ?_ | refine pureQ_use (h1) ?_) | (with_reducible first | refine callH_use (h2) ?_ | refine pureQ_use (h2) ?_)))
  all_goals first | done | rfl | trace_state
theorem min_may {a b : Vec} (ha : mayV a = true) (hb : mayV b = true) : mayV (minV a b) = true := by
  rw [mayV_iff] at ha hb ⊢
  have e1 : (minV a b).m = min a.m b.m := rfl
  have e2 : (minV a b).c = min a.c b.c := rfl
  omega
theorem low_may {f : List Seg} (hf : mayF f = true) {a z : Int} (h : a < z) : mayV (leastF minV f a z) = true := by
  have hr := (runsF_law ((may_canon hf).up) h).2
  have go : ∀ (l : List (Vec × Int)) (o : Vec), mayV o = true → (∀ q ∈ l, mayV q.1 = true) → mayV (l.foldl (fun o q => minV o q.1) o) = true := by
    intro l
    induction l with
    | nil => intro o ho _; exact ho
    | cons q r ih => intro o ho hq; exact ih _ (min_may ho (hq q (by simp))) (fun x hx => hq x (by simp [hx]))
  refine go _ _ (may_at hf a) (fun q hq => ?_)
  obtain ⟨_, s, _, _, e⟩ := hr q hq
  rw [e]; exact may_at hf s
theorem Units_15 (f : List Seg) (hf : f.length ≤ 1000000) (n d : Int) (u : Vec) : VPure Tryz.prog 10 [.sl (f.map Seg.a) .no, .int .i64 n, .int .i64 d, .agg [.int .i64 u.m, .int .i64 u.c]] (.tup [.int .i64 (mostF f n d u).1, .int .i64 (mostF f n d u).2]) := by
  refine VPure.of v_liveryref15_Units_ok (Nat.le_of_ble_eq_true rfl) (fun Z st => ?_)
  have h1 := May_2 f (by omega) .no
  have h2 := bad_15 f hf n d u
  by_cases hm : mayF f = true ∧ (u.m < 1 ∨ u.c < 1)
  · have e : mostF f n d u = (0, 2) := by unfold mostF; rw [if_pos hm]
    rw [e]
    obtain ⟨m1, m2⟩ := hm
    rw [m1] at h1
    clear e m1
    by_cases u1 : u.m < 1
    · simp only [v_liveryref15_Units, ↓vD, vU, ↓vMd, vMu, vZ, seval, k_app, k_slc1]
      (repeat' (first | (simp (maxDischargeDepth := 16) only [*, vX, ↓vD, vU, ↓vMd, vMu, vZ, seval]) | (simp (disch := first | assumption | omega | rfl | exact fun _ => rfl) only [vP]) | ((with_reducible first | apply gsnd | apply csnd | apply gsd | apply csd | apply gsn | apply csn | apply gs | apply cs_) <;> intro _) | (with_reducible refine objQ_i (fun _ _ => ?_); repeat with_reducible refine imp_i (fun _ => ?_)) | ((try with_reducible refine appK_a ?_); first | (with_reducible refine appD_F (by refine ⟨?_, ?_, ?_, ?_⟩ <;> (first | assumption | omega | exact St.has_add (by assumption) | (simp only [ins_has]; exact St.has_add (by assumption)) | (simp only [ins_has, fresh_ins, kill_ins, add_ins] at *; exact St.has_add (by assumption)) | (simp only [*, ins_has, has_full, St.has_add]; done) | (simp [-List.map_take, -List.map_drop, or_imp, forall_and, Seg.a, Vec.a, Leg.a, num, okEl, cells_agg, cells_int, cells_sl, cells_bool, AV.isCell]; done) | (simp; omega))) (fun _ _ => ?_)) | (with_reducible refine appD_V (by refine ⟨?_, ?_, ?_, ?_, ?_⟩ <;> (first | assumption | omega | exact St.has_add (by assumption) | (simp only [ins_has]; exact St.has_add (by assumption)) | (simp only [ins_has, fresh_ins, kill_ins, add_ins] at *; exact St.has_add (by assumption)) | (simp only [*, ins_has, has_full, St.has_add]; done) | (simp [-List.map_take, -List.map_drop, or_imp, forall_and, Seg.a, Vec.a, Leg.a, num, okEl, cells_agg, cells_int, cells_sl, cells_bool, AV.isCell]; done) | (simp; omega))) (fun _ _ => ?_))) | (with_reducible refine freshQ_i (fun _ _ => ?_)) | (with_reducible first | refine callH_use (h1) ?_ | refine pureQ_use (h1) ?_) | (with_reducible first | refine callH_use (h2) ?_ | refine pureQ_use (h2) ?_)))
      all_goals first | done | rfl | ((refine leX.start ?_ rfl; (repeat (refine leX.in_ (by simp only [*, ins_objs, if_true, if_false]; first | done | rfl) ?_)); (repeat (first | refine leX.new (by first | assumption | (rw [hob]; assumption)) ?_ | refine leX.old (by (simp only [List.mem_cons, true_or, or_true, eq_self]; done)) ?_)); exact leX.refl _ _); done) | trace_state
    · have u2 : u.c < 1 := by omega
      simp only [v_liveryref15_Units, ↓vD, vU, ↓vMd, vMu, vZ, seval, k_app, k_slc1]
      (repeat' (first | (simp (maxDischargeDepth := 16) only [*, vX, ↓vD, vU, ↓vMd, vMu, vZ, seval]) | (simp (disch := first | assumption | omega | rfl | exact fun _ => rfl) only [vP]) | ((with_reducible first | apply gsnd | apply csnd | apply gsd | apply csd | apply gsn | apply csn | apply gs | apply cs_) <;> intro _) | (with_reducible refine objQ_i (fun _ _ => ?_); repeat with_reducible refine imp_i (fun _ => ?_)) | ((try with_reducible refine appK_a ?_); first | (with_reducible refine appD_F (by refine ⟨?_, ?_, ?_, ?_⟩ <;> (first | assumption | omega | exact St.has_add (by assumption) | (simp only [ins_has]; exact St.has_add (by assumption)) | (simp only [ins_has, fresh_ins, kill_ins, add_ins] at *; exact St.has_add (by assumption)) | (simp only [*, ins_has, has_full, St.has_add]; done) | (simp [-List.map_take, -List.map_drop, or_imp, forall_and, Seg.a, Vec.a, Leg.a, num, okEl, cells_agg, cells_int, cells_sl, cells_bool, AV.isCell]; done) | (simp; omega))) (fun _ _ => ?_)) | (with_reducible refine appD_V (by refine ⟨?_, ?_, ?_, ?_, ?_⟩ <;> (first | assumption | omega | exact St.has_add (by assumption) | (simp only [ins_has]; exact St.has_add (by assumption)) | (simp only [ins_has, fresh_ins, kill_ins, add_ins] at *; exact St.has_add (by assumption)) | (simp only [*, ins_has, has_full, St.has_add]; done) | (simp [-List.map_take, -List.map_drop, or_imp, forall_and, Seg.a, Vec.a, Leg.a, num, okEl, cells_agg, cells_int, cells_sl, cells_bool, AV.isCell]; done) | (simp; omega))) (fun _ _ => ?_))) | (with_reducible refine freshQ_i (fun _ _ => ?_)) | (with_reducible first | refine callH_use (h1) ?_ | refine pureQ_use (h1) ?_) | (with_reducible first | refine callH_use (h2) ?_ | refine pureQ_use (h2) ?_)))
      all_goals first | done | rfl | ((refine leX.start ?_ rfl; (repeat (refine leX.in_ (by simp only [*, ins_objs, if_true, if_false]; first | done | rfl) ?_)); (repeat (first | refine leX.new (by first | assumption | (rw [hob]; assumption)) ?_ | refine leX.old (by (simp only [List.mem_cons, true_or, or_true, eq_self]; done)) ?_)); exact leX.refl _ _); done) | trace_state
  have hnot : mayF f = true → ¬ (u.m < 1) ∧ ¬ (u.c < 1) := fun h => by by_cases h1 : u.m < 1 ∨ u.c < 1; exact absurd ⟨h, h1⟩ hm; omega
  by_cases h0 : winE f n d u = 0
  case neg =>
    have e : mostF f n d u = (0, winE f n d u) := by unfold mostF; rw [if_neg hm, if_neg h0]
    rw [e]
    obtain ⟨w, hw⟩ : ∃ w, winE f n d u = w := ⟨_, rfl⟩
    rw [hw] at h0 h2 ⊢
    obtain ⟨mf, hmf⟩ : ∃ m, mayF f = m := ⟨_, rfl⟩
    rw [hmf] at h1 hnot
    clear e hw hmf hm
    cases mf
    · clear hnot
      simp only [v_liveryref15_Units, ↓vD, vU, ↓vMd, vMu, vZ, seval, k_app, k_slc1]
      (repeat' (first | (simp (maxDischargeDepth := 16) only [*, vX, ↓vD, vU, ↓vMd, vMu, vZ, seval]) | (simp (disch := first | assumption | omega | rfl | exact fun _ => rfl) only [vP]) | ((with_reducible first | apply gsnd | apply csnd | apply gsd | apply csd | apply gsn | apply csn | apply gs | apply cs_) <;> intro _) | (with_reducible refine objQ_i (fun _ _ => ?_); repeat with_reducible refine imp_i (fun _ => ?_)) | ((try with_reducible refine appK_a ?_); first | (with_reducible refine appD_F (by refine ⟨?_, ?_, ?_, ?_⟩ <;> (first | assumption | omega | exact St.has_add (by assumption) | (simp only [ins_has]; exact St.has_add (by assumption)) | (simp only [ins_has, fresh_ins, kill_ins, add_ins] at *; exact St.has_add (by assumption)) | (simp only [*, ins_has, has_full, St.has_add]; done) | (simp [-List.map_take, -List.map_drop, or_imp, forall_and, Seg.a, Vec.a, Leg.a, num, okEl, cells_agg, cells_int, cells_sl, cells_bool, AV.isCell]; done) | (simp; omega))) (fun _ _ => ?_)) | (with_reducible refine appD_V (by refine ⟨?_, ?_, ?_, ?_, ?_⟩ <;> (first | assumption | omega | exact St.has_add (by assumption) | (simp only [ins_has]; exact St.has_add (by assumption)) | (simp only [ins_has, fresh_ins, kill_ins, add_ins] at *; exact St.has_add (by assumption)) | (simp only [*, ins_has, has_full, St.has_add]; done) | (simp [-List.map_take, -List.map_drop, or_imp, forall_and, Seg.a, Vec.a, Leg.a, num, okEl, cells_agg, cells_int, cells_sl, cells_bool, AV.isCell]; done) | (simp; omega))) (fun _ _ => ?_))) | (with_reducible refine freshQ_i (fun _ _ => ?_)) | (with_reducible first | refine callH_use (h1) ?_ | refine pureQ_use (h1) ?_) | (with_reducible first | refine callH_use (h2) ?_ | refine pureQ_use (h2) ?_)))
      all_goals first | done | rfl | ((refine leX.start ?_ rfl; (repeat (refine leX.in_ (by simp only [*, ins_objs, if_true, if_false]; first | done | rfl) ?_)); (repeat (first | refine leX.new (by first | assumption | (rw [hob]; assumption)) ?_ | refine leX.old (by (simp only [List.mem_cons, true_or, or_true, eq_self]; done)) ?_)); exact leX.refl _ _); done) | trace_state
    · obtain ⟨u1, u2⟩ := hnot rfl
      clear hnot
      simp only [v_liveryref15_Units, ↓vD, vU, ↓vMd, vMu, vZ, seval, k_app, k_slc1]
      (repeat' (first | (simp (maxDischargeDepth := 16) only [*, vX, ↓vD, vU, ↓vMd, vMu, vZ, seval]) | (simp (disch := first | assumption | omega | rfl | exact fun _ => rfl) only [vP]) | ((with_reducible first | apply gsnd | apply csnd | apply gsd | apply csd | apply gsn | apply csn | apply gs | apply cs_) <;> intro _) | (with_reducible refine objQ_i (fun _ _ => ?_); repeat with_reducible refine imp_i (fun _ => ?_)) | ((try with_reducible refine appK_a ?_); first | (with_reducible refine appD_F (by refine ⟨?_, ?_, ?_, ?_⟩ <;> (first | assumption | omega | exact St.has_add (by assumption) | (simp only [ins_has]; exact St.has_add (by assumption)) | (simp only [ins_has, fresh_ins, kill_ins, add_ins] at *; exact St.has_add (by assumption)) | (simp only [*, ins_has, has_full, St.has_add]; done) | (simp [-List.map_take, -List.map_drop, or_imp, forall_and, Seg.a, Vec.a, Leg.a, num, okEl, cells_agg, cells_int, cells_sl, cells_bool, AV.isCell]; done) | (simp; omega))) (fun _ _ => ?_)) | (with_reducible refine appD_V (by refine ⟨?_, ?_, ?_, ?_, ?_⟩ <;> (first | assumption | omega | exact St.has_add (by assumption) | (simp only [ins_has]; exact St.has_add (by assumption)) | (simp only [ins_has, fresh_ins, kill_ins, add_ins] at *; exact St.has_add (by assumption)) | (simp only [*, ins_has, has_full, St.has_add]; done) | (simp [-List.map_take, -List.map_drop, or_imp, forall_and, Seg.a, Vec.a, Leg.a, num, okEl, cells_agg, cells_int, cells_sl, cells_bool, AV.isCell]; done) | (simp; omega))) (fun _ _ => ?_))) | (with_reducible refine freshQ_i (fun _ _ => ?_)) | (with_reducible first | refine callH_use (h1) ?_ | refine pureQ_use (h1) ?_) | (with_reducible first | refine callH_use (h2) ?_ | refine pureQ_use (h2) ?_)))
      all_goals first | done | rfl | ((refine leX.start ?_ rfl; (repeat (refine leX.in_ (by simp only [*, ins_objs, if_true, if_false]; first | done | rfl) ?_)); (repeat (first | refine leX.new (by first | assumption | (rw [hob]; assumption)) ?_ | refine leX.old (by (simp only [List.mem_cons, true_or, or_true, eq_self]; done)) ?_)); exact leX.refl _ _); done) | trace_state
  obtain ⟨m1, d1, d2, _, hv, n1, n2⟩ := win_ok h0
  obtain ⟨u1, u2⟩ := hnot m1
  have hwr : IntKind.i64.wrap (n + d) = n + d := wrap_i64 _ (by omega) (by omega)
  have e : mostF f n d u = (leastU f u n d (n :: f.map (·.t)) (-1), 0) := by
    unfold mostF
    rw [if_neg hm, if_pos h0, units_low m1 (by omega) (by omega) n d d1]
    unfold unitsE
    rw [if_neg (by omega), low_may m1 (by omega : n < n + d), hv]
    rfl
  rw [e]
  rw [h0] at h2
  rw [m1] at h1
  have hW := (When_2 f (by omega) .no).pure
  obtain ⟨ts, hts⟩ : ∃ ts, n :: f.map (·.t) = ts := ⟨_, rfl⟩
  have hE : AV.int .i64 n :: f.map (fun x => num x.t) = ts.map num := by rw [← hts, List.map_cons, List.map_map]; rfl
  have hl : ts.length ≤ 1000001 := by rw [← hts]; simp; omega
  rw [hts]
  obtain ⟨b, hb⟩ : ∃ b, leastU f u n d ts (-1) = b := ⟨_, rfl⟩
  rw [hb]
  have HB := Hid.mk hb
  have HA := Hid.mk fun s => At_2 f (by omega) .no s
  have HU : Hid (∀ s, unitsE (atF f s) u = (unitsV (atF f s) u, 0)) := ⟨fun s => by unfold unitsE; rw [if_neg (by omega), may_at m1 s, hv]; rfl⟩
  clear e hnot hm hts hb h0 m1 hv
  simp only [v_liveryref15_Units, ↓vD, vU, ↓vMd, vMu, vZ, seval, k_app, k_slc1]
  (repeat' (first | (simp (maxDischargeDepth := 16) only [*, vX, ↓vD, vU, ↓vMd, vMu, vZ, seval]) | (simp (disch := first | assumption | omega | rfl | exact fun _ => rfl) only [vP]) | ((with_reducible first | apply gsnd | apply csnd | apply gsd | apply csd | apply gsn | apply csn | apply gs | apply cs_) <;> intro _) | (with_reducible refine objQ_i (fun _ _ => ?_); repeat with_reducible refine imp_i (fun _ => ?_)) | ((try with_reducible refine appK_a ?_); first | (with_reducible refine appD_F (by refine ⟨?_, ?_, ?_, ?_⟩ <;> (first | assumption | omega | exact St.has_add (by assumption) | (simp only [ins_has]; exact St.has_add (by assumption)) | (simp only [ins_has, fresh_ins, kill_ins, add_ins] at *; exact St.has_add (by assumption)) | (simp only [*, ins_has, has_full, St.has_add]; done) | (simp [-List.map_take, -List.map_drop, or_imp, forall_and, Seg.a, Vec.a, Leg.a, num, okEl, cells_agg, cells_int, cells_sl, cells_bool, AV.isCell]; done) | (simp; omega))) (fun _ _ => ?_)) | (with_reducible refine appD_V (by refine ⟨?_, ?_, ?_, ?_, ?_⟩ <;> (first | assumption | omega | exact St.has_add (by assumption) | (simp only [ins_has]; exact St.has_add (by assumption)) | (simp only [ins_has, fresh_ins, kill_ins, add_ins] at *; exact St.has_add (by assumption)) | (simp only [*, ins_has, has_full, St.has_add]; done) | (simp [-List.map_take, -List.map_drop, or_imp, forall_and, Seg.a, Vec.a, Leg.a, num, okEl, cells_agg, cells_int, cells_sl, cells_bool, AV.isCell]; done) | (simp; omega))) (fun _ _ => ?_))) | (with_reducible refine freshQ_i (fun _ _ => ?_)) | (with_reducible first | refine callH_use (h1) ?_ | refine pureQ_use (h1) ?_) | (with_reducible first | refine callH_use (h2) ?_ | refine pureQ_use (h2) ?_) | (with_reducible first | refine callH_use (hW) ?_ | refine pureQ_use (hW) ?_)))
  all_goals
    refine loopp_of (len := ts.length) (by simp only [asgL, dsts, List.cons_append, List.nil_append, List.append_nil]; rfl) (by simp only [noR, Bool.and_true, Bool.and_false]; rfl) (by omega) (fun k fr => fr.t 13 = .int .i64 k ∧ ∃ q, fr.t 12 = .int .i64 q ∧ Hid (leastU f u n d (ts.drop k) q = b)) ?_ ?_ ?_
    · exact ⟨by simp [↓vD, vU, ↓vMd, vMu, vZ, seval, k_app, k_slc1], -1, by simp [↓vD, vU, ↓vMd, vMu, vZ, seval, k_app, k_slc1], HB⟩
    · rintro k fr hk hwk hfr hd ⟨h13, q, h12, HK⟩
      obtain ⟨s, hs⟩ : ∃ s, ts[k] = s := ⟨_, rfl⟩
      have hd1 : ts.drop k = s :: ts.drop (k + 1) := by rw [List.drop_eq_getElem_cons hk, hs]
      have HK2 : Hid (leastU f u n d (s :: ts.drop (k + 1)) q = b) := ⟨by rw [← hd1]; exact HK.out⟩
      clear HK HB hd1
      by_cases s1 : s < n
      · have HK3 : Hid (leastU f u n d (ts.drop (k + 1)) q = b) := ⟨by rw [← HK2.out, leastU, if_pos (.inl s1)]⟩
        clear HK2
        (repeat' (first | (simp (maxDischargeDepth := 16) only [*, num, vX, ↓vD, vU, ↓vMd, vMu, vZ, seval]) | (simp (disch := first | assumption | omega | rfl | exact fun _ => rfl) only [num, vP]) | ((with_reducible first | apply gsnd | apply csnd | apply gsd | apply csd | apply gsn | apply csn | apply gs | apply cs_) <;> intro _) | (with_reducible refine objQ_i (fun _ _ => ?_); repeat with_reducible refine imp_i (fun _ => ?_)) | ((try with_reducible refine appK_a ?_); first | (with_reducible refine appD_F (by refine ⟨?_, ?_, ?_, ?_⟩ <;> (first | assumption | omega | exact St.has_add (by assumption) | (simp only [ins_has]; exact St.has_add (by assumption)) | (simp only [ins_has, fresh_ins, kill_ins, add_ins] at *; exact St.has_add (by assumption)) | (simp only [*, ins_has, has_full, St.has_add]; done) | (simp [-List.map_take, -List.map_drop, or_imp, forall_and, Seg.a, Vec.a, Leg.a, num, okEl, cells_agg, cells_int, cells_sl, cells_bool, AV.isCell]; done) | (simp; omega))) (fun _ _ => ?_)) | (with_reducible refine appD_V (by refine ⟨?_, ?_, ?_, ?_, ?_⟩ <;> (first | assumption | omega | exact St.has_add (by assumption) | (simp only [ins_has]; exact St.has_add (by assumption)) | (simp only [ins_has, fresh_ins, kill_ins, add_ins] at *; exact St.has_add (by assumption)) | (simp only [*, ins_has, has_full, St.has_add]; done) | (simp [-List.map_take, -List.map_drop, or_imp, forall_and, Seg.a, Vec.a, Leg.a, num, okEl, cells_agg, cells_int, cells_sl, cells_bool, AV.isCell]; done) | (simp; omega))) (fun _ _ => ?_))) | (with_reducible refine freshQ_i (fun _ _ => ?_))))
        all_goals first | done | exact ⟨q, rfl, HK3⟩ | exact HK3 | trace_state
      by_cases s2 : n + d ≤ s
      · have HK3 : Hid (leastU f u n d (ts.drop (k + 1)) q = b) := ⟨by rw [← HK2.out, leastU, if_pos (.inr s2)]⟩
        clear HK2
        (repeat' (first | (simp (maxDischargeDepth := 16) only [*, num, vX, ↓vD, vU, ↓vMd, vMu, vZ, seval]) | (simp (disch := first | assumption | omega | rfl | exact fun _ => rfl) only [num, vP]) | ((with_reducible first | apply gsnd | apply csnd | apply gsd | apply csd | apply gsn | apply csn | apply gs | apply cs_) <;> intro _) | (with_reducible refine objQ_i (fun _ _ => ?_); repeat with_reducible refine imp_i (fun _ => ?_)) | ((try with_reducible refine appK_a ?_); first | (with_reducible refine appD_F (by refine ⟨?_, ?_, ?_, ?_⟩ <;> (first | assumption | omega | exact St.has_add (by assumption) | (simp only [ins_has]; exact St.has_add (by assumption)) | (simp only [ins_has, fresh_ins, kill_ins, add_ins] at *; exact St.has_add (by assumption)) | (simp only [*, ins_has, has_full, St.has_add]; done) | (simp [-List.map_take, -List.map_drop, or_imp, forall_and, Seg.a, Vec.a, Leg.a, num, okEl, cells_agg, cells_int, cells_sl, cells_bool, AV.isCell]; done) | (simp; omega))) (fun _ _ => ?_)) | (with_reducible refine appD_V (by refine ⟨?_, ?_, ?_, ?_, ?_⟩ <;> (first | assumption | omega | exact St.has_add (by assumption) | (simp only [ins_has]; exact St.has_add (by assumption)) | (simp only [ins_has, fresh_ins, kill_ins, add_ins] at *; exact St.has_add (by assumption)) | (simp only [*, ins_has, has_full, St.has_add]; done) | (simp [-List.map_take, -List.map_drop, or_imp, forall_and, Seg.a, Vec.a, Leg.a, num, okEl, cells_agg, cells_int, cells_sl, cells_bool, AV.isCell]; done) | (simp; omega))) (fun _ _ => ?_))) | (with_reducible refine freshQ_i (fun _ _ => ?_))))
        all_goals first | done | exact ⟨q, rfl, HK3⟩ | exact HK3 | trace_state
      have A := HA.out s
      have B := Units_1 (atF f s) u
      rw [HU.out s] at B
      have HK3 : Hid (leastU f u n d (ts.drop (k + 1)) (if q < 0 ∨ unitsV (atF f s) u < q then unitsV (atF f s) u else q) = b) := ⟨by have e := HK2.out; rw [leastU, if_neg (by omega : ¬ (s < n ∨ n + d ≤ s))] at e; exact e⟩
      obtain ⟨x, hx⟩ : ∃ x, unitsV (atF f s) u = x := ⟨_, rfl⟩
      rw [hx] at B HK3
      obtain ⟨y, hy⟩ : ∃ x, atF f s = x := ⟨_, rfl⟩
      rw [hy] at A B
      simp only [num] at A
      clear HK2 HA HU hx hy
      by_cases q1 : q < 0
      · rw [if_pos (.inl q1)] at HK3
        (repeat' (first | (simp (maxDischargeDepth := 16) only [*, num, vX, ↓vD, vU, ↓vMd, vMu, vZ, seval]) | (simp (disch := first | assumption | omega | rfl | exact fun _ => rfl) only [num, vP]) | ((with_reducible first | apply gsnd | apply csnd | apply gsd | apply csd | apply gsn | apply csn | apply gs | apply cs_) <;> intro _) | (with_reducible refine objQ_i (fun _ _ => ?_); repeat with_reducible refine imp_i (fun _ => ?_)) | ((try with_reducible refine appK_a ?_); first | (with_reducible refine appD_F (by refine ⟨?_, ?_, ?_, ?_⟩ <;> (first | assumption | omega | exact St.has_add (by assumption) | (simp only [ins_has]; exact St.has_add (by assumption)) | (simp only [ins_has, fresh_ins, kill_ins, add_ins] at *; exact St.has_add (by assumption)) | (simp only [*, ins_has, has_full, St.has_add]; done) | (simp [-List.map_take, -List.map_drop, or_imp, forall_and, Seg.a, Vec.a, Leg.a, num, okEl, cells_agg, cells_int, cells_sl, cells_bool, AV.isCell]; done) | (simp; omega))) (fun _ _ => ?_)) | (with_reducible refine appD_V (by refine ⟨?_, ?_, ?_, ?_, ?_⟩ <;> (first | assumption | omega | exact St.has_add (by assumption) | (simp only [ins_has]; exact St.has_add (by assumption)) | (simp only [ins_has, fresh_ins, kill_ins, add_ins] at *; exact St.has_add (by assumption)) | (simp only [*, ins_has, has_full, St.has_add]; done) | (simp [-List.map_take, -List.map_drop, or_imp, forall_and, Seg.a, Vec.a, Leg.a, num, okEl, cells_agg, cells_int, cells_sl, cells_bool, AV.isCell]; done) | (simp; omega))) (fun _ _ => ?_))) | (with_reducible refine freshQ_i (fun _ _ => ?_)) | (with_reducible first | refine callH_use (A) ?_ | refine pureQ_use (A) ?_) | (with_reducible first | refine callH_use (B) ?_ | refine pureQ_use (B) ?_)))
        all_goals first | done | exact ⟨x, rfl, HK3⟩ | exact HK3 | trace_state
      by_cases q2 : x < q
      · rw [if_pos (.inr q2)] at HK3
        (repeat' (first | (simp (maxDischargeDepth := 16) only [*, num, vX, ↓vD, vU, ↓vMd, vMu, vZ, seval]) | (simp (disch := first | assumption | omega | rfl | exact fun _ => rfl) only [num, vP]) | ((with_reducible first | apply gsnd | apply csnd | apply gsd | apply csd | apply gsn | apply csn | apply gs | apply cs_) <;> intro _) | (with_reducible refine objQ_i (fun _ _ => ?_); repeat with_reducible refine imp_i (fun _ => ?_)) | ((try with_reducible refine appK_a ?_); first | (with_reducible refine appD_F (by refine ⟨?_, ?_, ?_, ?_⟩ <;> (first | assumption | omega | exact St.has_add (by assumption) | (simp only [ins_has]; exact St.has_add (by assumption)) | (simp only [ins_has, fresh_ins, kill_ins, add_ins] at *; exact St.has_add (by assumption)) | (simp only [*, ins_has, has_full, St.has_add]; done) | (simp [-List.map_take, -List.map_drop, or_imp, forall_and, Seg.a, Vec.a, Leg.a, num, okEl, cells_agg, cells_int, cells_sl, cells_bool, AV.isCell]; done) | (simp; omega))) (fun _ _ => ?_)) | (with_reducible refine appD_V (by refine ⟨?_, ?_, ?_, ?_, ?_⟩ <;> (first | assumption | omega | exact St.has_add (by assumption) | (simp only [ins_has]; exact St.has_add (by assumption)) | (simp only [ins_has, fresh_ins, kill_ins, add_ins] at *; exact St.has_add (by assumption)) | (simp only [*, ins_has, has_full, St.has_add]; done) | (simp [-List.map_take, -List.map_drop, or_imp, forall_and, Seg.a, Vec.a, Leg.a, num, okEl, cells_agg, cells_int, cells_sl, cells_bool, AV.isCell]; done) | (simp; omega))) (fun _ _ => ?_))) | (with_reducible refine freshQ_i (fun _ _ => ?_)) | (with_reducible first | refine callH_use (A) ?_ | refine pureQ_use (A) ?_) | (with_reducible first | refine callH_use (B) ?_ | refine pureQ_use (B) ?_)))
        all_goals first | done | exact ⟨x, rfl, HK3⟩ | exact HK3 | trace_state
      · rw [if_neg (by omega)] at HK3
        (repeat' (first | (simp (maxDischargeDepth := 16) only [*, num, vX, ↓vD, vU, ↓vMd, vMu, vZ, seval]) | (simp (disch := first | assumption | omega | rfl | exact fun _ => rfl) only [num, vP]) | ((with_reducible first | apply gsnd | apply csnd | apply gsd | apply csd | apply gsn | apply csn | apply gs | apply cs_) <;> intro _) | (with_reducible refine objQ_i (fun _ _ => ?_); repeat with_reducible refine imp_i (fun _ => ?_)) | ((try with_reducible refine appK_a ?_); first | (with_reducible refine appD_F (by refine ⟨?_, ?_, ?_, ?_⟩ <;> (first | assumption | omega | exact St.has_add (by assumption) | (simp only [ins_has]; exact St.has_add (by assumption)) | (simp only [ins_has, fresh_ins, kill_ins, add_ins] at *; exact St.has_add (by assumption)) | (simp only [*, ins_has, has_full, St.has_add]; done) | (simp [-List.map_take, -List.map_drop, or_imp, forall_and, Seg.a, Vec.a, Leg.a, num, okEl, cells_agg, cells_int, cells_sl, cells_bool, AV.isCell]; done) | (simp; omega))) (fun _ _ => ?_)) | (with_reducible refine appD_V (by refine ⟨?_, ?_, ?_, ?_, ?_⟩ <;> (first | assumption | omega | exact St.has_add (by assumption) | (simp only [ins_has]; exact St.has_add (by assumption)) | (simp only [ins_has, fresh_ins, kill_ins, add_ins] at *; exact St.has_add (by assumption)) | (simp only [*, ins_has, has_full, St.has_add]; done) | (simp [-List.map_take, -List.map_drop, or_imp, forall_and, Seg.a, Vec.a, Leg.a, num, okEl, cells_agg, cells_int, cells_sl, cells_bool, AV.isCell]; done) | (simp; omega))) (fun _ _ => ?_))) | (with_reducible refine freshQ_i (fun _ _ => ?_)) | (with_reducible first | refine callH_use (A) ?_ | refine pureQ_use (A) ?_) | (with_reducible first | refine callH_use (B) ?_ | refine pureQ_use (B) ?_)))
        all_goals first | done | exact ⟨q, rfl, HK3⟩ | exact HK3 | trace_state
    · rintro fr hfr hd ⟨h13, q, h12, HK⟩
      rw [List.drop_length] at HK
      obtain rfl : q = b := HK.out
      clear HK HB
      (repeat' (first | (simp (maxDischargeDepth := 16) only [*, num, vX, ↓vD, vU, ↓vMd, vMu, vZ, seval]) | (simp (disch := first | assumption | omega | rfl | exact fun _ => rfl) only [num, vP]) | ((with_reducible first | apply gsnd | apply csnd | apply gsd | apply csd | apply gsn | apply csn | apply gs | apply cs_) <;> intro _) | (with_reducible refine objQ_i (fun _ _ => ?_); repeat with_reducible refine imp_i (fun _ => ?_)) | ((try with_reducible refine appK_a ?_); first | (with_reducible refine appD_F (by refine ⟨?_, ?_, ?_, ?_⟩ <;> (first | assumption | omega | exact St.has_add (by assumption) | (simp only [ins_has]; exact St.has_add (by assumption)) | (simp only [ins_has, fresh_ins, kill_ins, add_ins] at *; exact St.has_add (by assumption)) | (simp only [*, ins_has, has_full, St.has_add]; done) | (simp [-List.map_take, -List.map_drop, or_imp, forall_and, Seg.a, Vec.a, Leg.a, num, okEl, cells_agg, cells_int, cells_sl, cells_bool, AV.isCell]; done) | (simp; omega))) (fun _ _ => ?_)) | (with_reducible refine appD_V (by refine ⟨?_, ?_, ?_, ?_, ?_⟩ <;> (first | assumption | omega | exact St.has_add (by assumption) | (simp only [ins_has]; exact St.has_add (by assumption)) | (simp only [ins_has, fresh_ins, kill_ins, add_ins] at *; exact St.has_add (by assumption)) | (simp only [*, ins_has, has_full, St.has_add]; done) | (simp [-List.map_take, -List.map_drop, or_imp, forall_and, Seg.a, Vec.a, Leg.a, num, okEl, cells_agg, cells_int, cells_sl, cells_bool, AV.isCell]; done) | (simp; omega))) (fun _ _ => ?_))) | (with_reducible refine freshQ_i (fun _ _ => ?_))))
      all_goals first | done | rfl | ((refine leX.start ?_ rfl; (repeat (refine leX.in_ (by simp only [*, ins_objs, if_true, if_false]; first | done | rfl) ?_)); (repeat (first | refine leX.new (by first | assumption | (rw [hob]; assumption)) ?_ | refine leX.old (by (simp only [List.mem_cons, true_or, or_true, eq_self]; done)) ?_)); exact leX.refl _ _); done) | (((try clear hfr); (try clear hfr2); (try clear hfr3); (try clear hf); (try clear hf2); (try clear hd); (try clear hd2); (try clear hd3); (try simp only [fresh_ins, kill_ins, add_ins] at *); (repeat' (first | exact St.le.refl _ | (with_reducible refine le_ins_new ?_ _ (by assumption)) | (with_reducible refine St.le.trans ?_ (add_kill_le (by assumption))) | (with_reducible refine le_add_t _ ?_)))); done) | trace_state
theorem fitTells_v (f : List Seg) (hl : (f.length : Int) ≤ 9223372036854775807) (n d : Int) (v : Vec) : VPure Tryz.prog 3 [.sl (f.map Seg.a) .no, .agg [.int .i64 n, .int .i64 d, .int .i64 v.m, .int .i64 v.c]] (.bool true) := by
  refine VPure.of v_liverylaw15_FitTells_ok (Nat.le_of_ble_eq_true rfl) (fun Z st => ?_)
  by_cases h60 : 60 < f.length
  · simp only [v_liverylaw15_FitTells, ↓vD, vU, ↓vMd, vMu, vZ, seval, k_app, k_slc1]
    (repeat' (first | (simp (maxDischargeDepth := 16) only [*, vX, ↓vD, vU, ↓vMd, vMu, vZ, seval]) | (simp (disch := first | assumption | omega | rfl | exact fun _ => rfl) only [vP]) | ((with_reducible first | apply gsnd | apply csnd | apply gsd | apply csd | apply gsn | apply csn | apply gs | apply cs_) <;> intro _) | (with_reducible refine objQ_i (fun _ _ => ?_); repeat with_reducible refine imp_i (fun _ => ?_)) | (with_reducible first | refine callH_use (head_15) ?_ | refine pureQ_use (head_15) ?_)))
  have a1 := Fits_c f (by omega) n d v .no
  have a2 := Fits_15 f (by omega) n d v
  have a3 := Take_c f (by omega) n d v .no
  have a4 := Take_15 f (by omega) n d v
  have a5 := Most_c f (by omega) n d v .no
  have a6 := Units_15 f (by omega) n d v
  have tl := take_len f n d v
  have a7 := Same_2 (takeF f n d v).1 (takeF f n d v).1 (by omega) .no .no
  have a8 : sameF (takeF f n d v).1 (takeF f n d v).1 = true := by unfold sameF; simp
  rw [a8] at a7
  clear a8 tl
  obtain ⟨F, hF⟩ : ∃ w, fitsF f n d v = w := ⟨_, rfl⟩
  obtain ⟨T, hT⟩ : ∃ w, takeF f n d v = w := ⟨_, rfl⟩
  obtain ⟨M, hM⟩ : ∃ w, mostF f n d v = w := ⟨_, rfl⟩
  rw [hF] at a1 a2
  rw [hT] at a3 a4 a7
  rw [hM] at a5 a6
  simp only [num, Vec.a] at a1 a2 a3 a4 a5 a6 a7
  clear hF hT hM
  obtain ⟨b, e⟩ := F
  simp only at a1 a2
  cases b <;>
  · simp only [v_liverylaw15_FitTells, ↓vD, vU, ↓vMd, vMu, vZ, seval, k_app, k_slc1]
    (repeat' (first | (simp (maxDischargeDepth := 16) only [*, vX, ↓vD, vU, ↓vMd, vMu, vZ, seval]) | (simp (disch := first | assumption | omega | rfl | exact fun _ => rfl) only [vP]) | ((with_reducible first | apply gsnd | apply csnd | apply gsd | apply csd | apply gsn | apply csn | apply gs | apply cs_) <;> intro _) | (with_reducible refine objQ_i (fun _ _ => ?_); repeat with_reducible refine imp_i (fun _ => ?_)) | (with_reducible first | refine callH_use (a1) ?_ | refine pureQ_use (a1) ?_) | (with_reducible first | refine callH_use (a2) ?_ | refine pureQ_use (a2) ?_) | (with_reducible first | refine callH_use (a3) ?_ | refine pureQ_use (a3) ?_) | (with_reducible first | refine callH_use (a4) ?_ | refine pureQ_use (a4) ?_) | (with_reducible first | refine callH_use (a5) ?_ | refine pureQ_use (a5) ?_) | (with_reducible first | refine callH_use (a6) ?_ | refine pureQ_use (a6) ?_) | (with_reducible first | refine callH_use (a7) ?_ | refine pureQ_use (a7) ?_) | (with_reducible first | refine callH_use (head_15) ?_ | refine pureQ_use (head_15) ?_)))
end Go.Proofs.YtglekfgoadehbaaGreatDoor.V
end
section
/- FitTells, as the row hands it in. -/
namespace Go.Proofs.YtglekfgoadehbaaGreatDoor.V
open Go Go.Proofs
theorem fitTells_r (f : List Seg) (_ : ∀ x ∈ f, wfSeg x) (hl : (f.length : Int) ≤ 9223372036854775807) (x : Ask15) (_ : True) : VPure Tryz.prog 3 [.sl (f.map Seg.a) .no, x.a] (.bool true) :=
  fitTells_v f hl x.n x.d x.v
end Go.Proofs.YtglekfgoadehbaaGreatDoor.V
end
