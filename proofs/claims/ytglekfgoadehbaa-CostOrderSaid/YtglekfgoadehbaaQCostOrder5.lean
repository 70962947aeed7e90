/- Texts of this claim, joined: Cslot3, Cslot2, Cslot4, Pslot5, VXcmp, Cbeg, CsoI64, CspI64, CsqI64, Pcost, Cbest, Ccheap, Cbst, VXliveryref17, VXliverylaw17, C17a, VXliveryref16, Cslot5. -/
import Derived.Test.YtglekfgoadehbaaQCostOrder4
import Derived.Test.YtglekfgoadehbaaQCostOrder3
import Derived.Test.YtglekfgoadehbaaQCostOrder2
import Derived.Test.YtglekfgoadehbaaProg
section
set_option linter.unusedSimpArgs false
set_option linter.unusedVariables false
/- slot.low and its iterator. -/
namespace Go.Proofs.Ytglekfgoadehbaa.V
open Go Go.Proofs
set_option maxRecDepth 100000
set_option maxHeartbeats 4000000
theorem low_c (f : List Seg) (w v : Vec) (t : Tok) : VPure Try.prog 42 [.sl (f.map Seg.a) t, w.a, v.a] (.clo 74 [] [.iptr w.a 0, .iptr (.sl (f.map Seg.a) t) 0, .iptr v.a 0]) := fun Z st => by
  have h : VCalls Try.prog Z 42 [.sl (f.map Seg.a) t, w.a, v.a] st (fun r s => ∃ bf bw bv, st.objs bf = none ∧ st.objs bw = none ∧ st.objs bv = none ∧ ¬ bf = bw ∧ ¬ bf = bv ∧ ¬ bw = bv ∧ r = .clo 74 [] [.ptr bw 0, .ptr bf 0, .ptr bv 0] ∧
      s = ((st.ins bf (.cells [.sl (f.map Seg.a) t])).ins bw (.cells [.int .i64 w.m, .int .i64 w.c])).ins bv (.cells [.int .i64 v.m, .int .i64 v.c])) := by
    refine VCalls.of v_slot_low_ok (Nat.le_of_ble_eq_true rfl) ?_
    simp only [v_slot_low, ↓vD, vU, ↓vMd, vMu, vZ, seval, k_app, k_slc1]
    (repeat' (first | (simp (maxDischargeDepth := 16) only [*, Vec.a, vX, ↓vD, vU, ↓vMd, vMu, vZ, seval]) | (simp (disch := first | assumption | omega | rfl | exact fun _ => rfl) only [Vec.a, vP]) | ((with_reducible first | apply gsnd | apply csnd | apply gsd | apply csd | apply gsn | apply csn | apply gs | apply cs_) <;> intro _) | (with_reducible refine objQ_i (fun _ _ => ?_); repeat with_reducible refine imp_i (fun _ => ?_))))
    rename_i bf hf bw hw n1 n2 bv hv n3 n4 n5 n6
    exact ⟨_, St.le.refl _, bf, bw, bv, hf, hw, hv, n2, n4, n6, rfl, rfl⟩
  refine h.wk ?_
  rintro _ _ ⟨bf, bw, bv, hf, hw, hv, n1, n2, n3, rfl, rfl⟩
  have n1' : ¬ bw = bf := fun e => n1 e.symm
  have n2' : ¬ bv = bf := fun e => n2 e.symm
  have n3' : ¬ bv = bw := fun e => n3 e.symm
  (refine ⟨_, st, (Wk.fz _ (b := bw) (x := w.a) (by first | (simp only [St.ins, St.del, *, if_true, if_false, eq_self, not_false_eq_true, ite_true, ite_false]; first | done | rfl) | (simp [St.ins, St.del, *]; done) | (simp [St.ins, St.del, *]; rfl)) (by first | rfl | simp [okEl, AV.cells, AV.isCell]) (by first | exact Nat.zero_lt_succ _ | simp [AV.cells]) _).trans ((Wk.fz _ (b := bf) (x := .sl (f.map Seg.a) t) (by first | (simp only [St.ins, St.del, *, if_true, if_false, eq_self, not_false_eq_true, ite_true, ite_false]; first | done | rfl) | (simp [St.ins, St.del, *]; done) | (simp [St.ins, St.del, *]; rfl)) (by first | rfl | simp [okEl, AV.cells, AV.isCell]) (by first | exact Nat.zero_lt_succ _ | simp [AV.cells]) _).trans ((Wk.fz _ (b := bv) (x := v.a) (by first | (simp only [St.ins, St.del, *, if_true, if_false, eq_self, not_false_eq_true, ite_true, ite_false]; first | done | rfl) | (simp [St.ins, St.del, *]; done) | (simp [St.ins, St.del, *]; rfl)) (by first | rfl | simp [okEl, AV.cells, AV.isCell]) (by first | exact Nat.zero_lt_succ _ | simp [AV.cells]) _).trans (Wk.le (by (refine ⟨fun i o e => ?_, fun _ h => h⟩; revert e; simp only [St.ins, St.del, add_objs, kill_objs]; (repeat' split); all_goals (first | exact id | (intros; contradiction) | (intros; subst_vars; contradiction) | (intros; simp_all; done) | (intros; subst_vars; simp_all; done)))) _))), ?_⟩; simp only [AV.sub, AV.subL, *, if_true, if_false, eq_self, ite_true, ite_false])
  try exact ⟨trivial, trivial⟩
theorem low_it (f : List Seg) (hn : f.length ≤ 1000000000) (w v : Vec) (t : Tok) : VIter Try.prog 74 [] [.iptr w.a 0, .iptr (.sl (f.map Seg.a) t) 0, .iptr v.a 0] ((lowF f w v).map fun b => [b.a]) := by
  intro Y l I E S0 h0 hy
  obtain ⟨L, hL⟩ : ∃ L, lowF f w v = L := ⟨_, rfl⟩
  simp only [hL, List.length_map, List.getElem_map] at hy ⊢
  have hAt := At_v f (by omega) t w.m
  obtain ⟨u0, hu0⟩ : ∃ u, atF f w.m = u := ⟨_, rfl⟩
  rw [hu0] at hAt
  have HL : Hid (L = lowGo w v f w.m u0) := ⟨by rw [← hL, ← hu0]; rfl⟩
  have HY : Hid (∀ k it r, L.drop k = it :: r → ∀ S, I k S → VYield Try.prog Y l [it.a] S (YY I E k)) := ⟨fun k it r h => by
    obtain ⟨hk, rfl, _⟩ := drop_cons h
    exact hy k hk⟩
  have hLE := LE_v v.m v.c
  clear hL hu0 hy
  refine VCalls.of v_slot_low_1_ok (Nat.le_of_ble_eq_true rfl) ?_
  simp only [v_slot_low_1, List.nil_append, List.cons_append, ↓vD, vU, ↓vMd, vMu, vZ, seval, k_app, k_slc1]
  (repeat' (first | (simp (maxDischargeDepth := 16) only [*, num, Vec.a, vX, ↓vD, vU, ↓vMd, vMu, vZ, seval]) | (simp (disch := first | assumption | omega | rfl | exact fun _ => rfl) only [num, Vec.a, vP]) | ((with_reducible first | apply gsnd | apply csnd | apply gsd | apply csd | apply gsn | apply csn | apply gs | apply cs_) <;> intro _) | (with_reducible refine objQ_i (fun _ _ => ?_); repeat with_reducible refine imp_i (fun _ => ?_)) | (with_reducible first | refine callH_use (hAt) ?_ | refine pureQ_use (hAt) ?_)))
  rename_i b6 h6
  refine loopf_of (len := f.length) (by simp only [asgL, dsts, List.cons_append, List.nil_append, List.append_nil]; rfl) (by simp only [noR, Bool.and_true, Bool.and_false]; rfl) (by omega) (fun k fr s => ∃ (j : Nat) (p : Int) (u : Vec) (S : St), s = S.ins b6 (.cells [.int .i64 u.m, .int .i64 u.c])
    ∧ fr.t 17 = .int .i64 k ∧ fr.t 5 = .int .i64 p ∧ I j S ∧ S.objs b6 = none ∧ j ≤ L.length ∧ Hid (L.drop j = lowGo w v (f.drop k) p u)) ?_ ?_ ?_
  · exact ⟨0, w.m, u0, S0, rfl, by simp [↓vD, vU, ↓vMd, vMu, vZ, seval, k_app, k_slc1], by simp [↓vD, vU, ↓vMd, vMu, vZ, seval, k_app, k_slc1], h0, h6, by omega, ⟨by rw [HL.out]; rfl⟩⟩
  · rintro k fr s hk hwr hfr hd ⟨j, p, u, S, rfl, h17, h5, hI, hS6, hj, HK⟩
    obtain ⟨x, hx⟩ : ∃ x, f[k] = x := ⟨_, rfl⟩
    have hdr : f.drop k = x :: f.drop (k + 1) := by rw [List.drop_eq_getElem_cons hk, hx]
    have hK := HK.out
    rw [hdr, lowGo] at hK
    by_cases hskip : x.t ≤ w.m ∨ w.c ≤ x.t
    · have HN : Hid (L.drop j = lowGo w v (f.drop (k + 1)) p u) := ⟨by rw [hK, if_pos hskip]⟩
      clear hK hdr HK
      (repeat' (first | (simp (maxDischargeDepth := 16) only [*, num, Vec.a, Seg.a, vX, ↓vD, vU, ↓vMd, vMu, vZ, seval]) | (simp (disch := first | assumption | omega | rfl | exact fun _ => rfl) only [num, Vec.a, Seg.a, vP]) | ((with_reducible first | apply gsnd | apply csnd | apply gsd | apply csd | apply gsn | apply csn | apply gs | apply cs_) <;> intro _) | (with_reducible refine objQ_i (fun _ _ => ?_); repeat with_reducible refine imp_i (fun _ => ?_)) | (with_reducible first | refine callH_use (hLE _ _) ?_ | refine pureQ_use (hLE _ _) ?_)))
      all_goals first | exact ⟨_, by (refine ⟨fun i o e => ?_, fun _ h => h⟩; revert e; simp only [St.ins, St.del, add_objs, kill_objs]; (repeat' split); all_goals (first | exact id | (intros; contradiction) | (intros; subst_vars; contradiction) | (intros; simp_all; done) | (intros; subst_vars; simp_all; done))), j, p, u, S, rfl, rfl, hI, hS6, hj, HN⟩ | omega
    · rw [if_neg hskip] at hK
      cases hle : (decide (v.m ≤ u.m) && decide (v.c ≤ u.c)) with
      | true =>
        have HN : Hid (L.drop j = lowGo w v (f.drop (k + 1)) x.t x.v) := ⟨by rw [hK, if_pos (show leW v u = true from hle)]⟩
        clear hK hdr HK
        (repeat' (first | (simp (maxDischargeDepth := 16) only [*, num, Vec.a, Seg.a, vX, ↓vD, vU, ↓vMd, vMu, vZ, seval]) | (simp (disch := first | assumption | omega | rfl | exact fun _ => rfl) only [num, Vec.a, Seg.a, vP]) | ((with_reducible first | apply gsnd | apply csnd | apply gsd | apply csd | apply gsn | apply csn | apply gs | apply cs_) <;> intro _) | (with_reducible refine objQ_i (fun _ _ => ?_); repeat with_reducible refine imp_i (fun _ => ?_)) | (with_reducible first | refine callH_use (hLE _ _) ?_ | refine pureQ_use (hLE _ _) ?_)))
        exact ⟨_, by (refine ⟨fun i o e => ?_, fun _ h => h⟩; revert e; simp only [St.ins, St.del, add_objs, kill_objs]; (repeat' split); all_goals (first | exact id | (intros; contradiction) | (intros; subst_vars; contradiction) | (intros; simp_all; done) | (intros; subst_vars; simp_all; done))), j, x.t, x.v, S, rfl, rfl, hI, hS6, hj, HN⟩
      | false =>
        have HN : Hid (L.drop j = ⟨p, x.t⟩ :: lowGo w v (f.drop (k + 1)) x.t x.v) := ⟨by rw [hK, if_neg (by unfold leW; rw [hle]; simp)]⟩
        clear hK hdr HK
        (repeat' (first | (simp (maxDischargeDepth := 16) only [*, num, Vec.a, Seg.a, vX, ↓vD, vU, ↓vMd, vMu, vZ, seval]) | (simp (disch := first | assumption | omega | rfl | exact fun _ => rfl) only [num, Vec.a, Seg.a, vP]) | ((with_reducible first | apply gsnd | apply csnd | apply gsd | apply csd | apply gsn | apply csn | apply gs | apply cs_) <;> intro _) | (with_reducible refine objQ_i (fun _ _ => ?_); repeat with_reducible refine imp_i (fun _ => ?_)) | (with_reducible first | refine callH_use (hLE _ _) ?_ | refine pureQ_use (hLE _ _) ?_)))
        rename_i b8 h8 n86 n68
        refine yieldH_then (((HY.out j _ _ HN.out S hI).frame b6 _ hS6).frame b8 _ (by simp only [ins_objs, *, if_false])) rfl ?_
        rintro _ _ ⟨_, ⟨s0, hyy, q6, rfl⟩, q8, rfl⟩
        obtain ⟨hj2, _, hd2⟩ := drop_cons HN.out
        have q8' : s0.objs b8 = none := by simpa only [ins_objs, n86, if_false] using q8
        rcases hyy with ⟨rfl, S', hI', hle'⟩ | ⟨rfl, S', hE', hle'⟩
        · have HN2 : Hid (L.drop (j + 1) = lowGo w v (f.drop (k + 1)) x.t x.v) := ⟨hd2⟩
          clear HN hd2
          (repeat' (first | (simp (maxDischargeDepth := 16) only [*, num, Vec.a, Seg.a, vX, ↓vD, vU, ↓vMd, vMu, vZ, seval]) | (simp (disch := first | assumption | omega | rfl | exact fun _ => rfl) only [num, Vec.a, Seg.a, vP]) | ((with_reducible first | apply gsnd | apply csnd | apply gsd | apply csd | apply gsn | apply csn | apply gs | apply cs_) <;> intro _) | (with_reducible refine objQ_i (fun _ _ => ?_); repeat with_reducible refine imp_i (fun _ => ?_)) | (with_reducible first | refine callH_use (hLE _ _) ?_ | refine pureQ_use (hLE _ _) ?_)))
          exact ⟨_, (St.le.ins hle' b6 _).trans (by (refine ⟨fun i o e => ?_, fun _ h => h⟩; revert e; simp only [St.ins, St.del, add_objs, kill_objs]; (repeat' split); all_goals (first | exact id | (intros; contradiction) | (intros; subst_vars; contradiction) | (intros; simp_all; done) | (intros; subst_vars; simp_all; done)))), j + 1, x.t, x.v, S', rfl, rfl, hI', hle'.none q6, by omega, HN2⟩
        · (repeat' (first | (simp (maxDischargeDepth := 16) only [*, num, Vec.a, Seg.a, vX, ↓vD, vU, ↓vMd, vMu, vZ, seval]) | (simp (disch := first | assumption | omega | rfl | exact fun _ => rfl) only [num, Vec.a, Seg.a, vP]) | ((with_reducible first | apply gsnd | apply csnd | apply gsd | apply csd | apply gsn | apply csn | apply gs | apply cs_) <;> intro _) | (with_reducible refine objQ_i (fun _ _ => ?_); repeat with_reducible refine imp_i (fun _ => ?_)) | (with_reducible first | refine callH_use (hLE _ _) ?_ | refine pureQ_use (hLE _ _) ?_)))
          exact ⟨_, St.le.refl _, S', .inr hE', hle'.trans (by (refine ⟨fun i o e => ?_, fun _ h => h⟩; revert e; simp only [St.ins, St.del, add_objs, kill_objs]; (repeat' split); all_goals (first | exact id | (intros; contradiction) | (intros; subst_vars; contradiction) | (intros; simp_all; done) | (intros; subst_vars; simp_all; done))))⟩
  · rintro fr s hfr hd ⟨j, p, u, S, rfl, h17, h5, hI, hS6, hj, HK⟩
    rw [List.drop_length, lowGo] at HK
    cases hle : (decide (v.m ≤ u.m) && decide (v.c ≤ u.c)) with
    | true =>
      have HN : Hid (L.drop j = []) := ⟨by rw [HK.out, if_pos (show leW v u = true from hle)]⟩
      have hjl : j = L.length := by have := List.drop_eq_nil_iff.1 HN.out; omega
      subst hjl
      clear HK HN
      (repeat' (first | (simp (maxDischargeDepth := 16) only [*, num, Vec.a, Seg.a, vX, ↓vD, vU, ↓vMd, vMu, vZ, seval]) | (simp (disch := first | assumption | omega | rfl | exact fun _ => rfl) only [num, Vec.a, Seg.a, vP]) | ((with_reducible first | apply gsnd | apply csnd | apply gsd | apply csd | apply gsn | apply csn | apply gs | apply cs_) <;> intro _) | (with_reducible refine objQ_i (fun _ _ => ?_); repeat with_reducible refine imp_i (fun _ => ?_)) | (with_reducible first | refine callH_use (hLE _ _) ?_ | refine pureQ_use (hLE _ _) ?_)))
      exact ⟨_, St.le.refl _, S, .inl hI, by (refine ⟨fun i o e => ?_, fun _ h => h⟩; revert e; simp only [St.ins, St.del, add_objs, kill_objs]; (repeat' split); all_goals (first | exact id | (intros; contradiction) | (intros; subst_vars; contradiction) | (intros; simp_all; done) | (intros; subst_vars; simp_all; done)))⟩
    | false =>
      have HN : Hid (L.drop j = [⟨p, w.c⟩]) := ⟨by rw [HK.out, if_neg (by unfold leW; rw [hle]; simp)]⟩
      clear HK
      (repeat' (first | (simp (maxDischargeDepth := 16) only [*, num, Vec.a, Seg.a, vX, ↓vD, vU, ↓vMd, vMu, vZ, seval]) | (simp (disch := first | assumption | omega | rfl | exact fun _ => rfl) only [num, Vec.a, Seg.a, vP]) | ((with_reducible first | apply gsnd | apply csnd | apply gsd | apply csd | apply gsn | apply csn | apply gs | apply cs_) <;> intro _) | (with_reducible refine objQ_i (fun _ _ => ?_); repeat with_reducible refine imp_i (fun _ => ?_)) | (with_reducible first | refine callH_use (hLE _ _) ?_ | refine pureQ_use (hLE _ _) ?_)))
      refine yieldH_then ((HY.out j _ _ HN.out S hI).frame b6 _ hS6) rfl ?_
      rintro _ _ ⟨s0, hyy, q6, rfl⟩
      obtain ⟨hj2, _, hd2⟩ := drop_cons HN.out
      have hjl : j + 1 = L.length := by have := List.drop_eq_nil_iff.1 hd2; omega
      rcases hyy with ⟨rfl, S', hI', hle'⟩ | ⟨rfl, S', hE', hle'⟩
      · rw [hjl] at hI'
        (repeat' (first | (simp (maxDischargeDepth := 16) only [*, num, Vec.a, Seg.a, vX, ↓vD, vU, ↓vMd, vMu, vZ, seval]) | (simp (disch := first | assumption | omega | rfl | exact fun _ => rfl) only [num, Vec.a, Seg.a, vP]) | ((with_reducible first | apply gsnd | apply csnd | apply gsd | apply csd | apply gsn | apply csn | apply gs | apply cs_) <;> intro _) | (with_reducible refine objQ_i (fun _ _ => ?_); repeat with_reducible refine imp_i (fun _ => ?_)) | (with_reducible first | refine callH_use (hLE _ _) ?_ | refine pureQ_use (hLE _ _) ?_)))
        exact ⟨_, St.le.refl _, S', .inl hI', hle'.trans (by (refine ⟨fun i o e => ?_, fun _ h => h⟩; revert e; simp only [St.ins, St.del, add_objs, kill_objs]; (repeat' split); all_goals (first | exact id | (intros; contradiction) | (intros; subst_vars; contradiction) | (intros; simp_all; done) | (intros; subst_vars; simp_all; done))))⟩
      · (repeat' (first | (simp (maxDischargeDepth := 16) only [*, num, Vec.a, Seg.a, vX, ↓vD, vU, ↓vMd, vMu, vZ, seval]) | (simp (disch := first | assumption | omega | rfl | exact fun _ => rfl) only [num, Vec.a, Seg.a, vP]) | ((with_reducible first | apply gsnd | apply csnd | apply gsd | apply csd | apply gsn | apply csn | apply gs | apply cs_) <;> intro _) | (with_reducible refine objQ_i (fun _ _ => ?_); repeat with_reducible refine imp_i (fun _ => ?_)) | (with_reducible first | refine callH_use (hLE _ _) ?_ | refine pureQ_use (hLE _ _) ?_)))
        exact ⟨_, St.le.refl _, S', .inr hE', hle'.trans (by (refine ⟨fun i o e => ?_, fun _ h => h⟩; revert e; simp only [St.ins, St.del, add_objs, kill_objs]; (repeat' split); all_goals (first | exact id | (intros; contradiction) | (intros; subst_vars; contradiction) | (intros; simp_all; done) | (intros; subst_vars; simp_all; done))))⟩
end Go.Proofs.Ytglekfgoadehbaa.V
end
section
set_option linter.unusedSimpArgs false
set_option linter.unusedVariables false
/- slot.without. -/
namespace Go.Proofs.Ytglekfgoadehbaa.V
open Go Go.Proofs
set_option maxRecDepth 100000
set_option maxHeartbeats 4000000
def cutN (x w : Vec) : Nat → List Vec
  | 0 => []
  | 1 => if w.m < min w.c x.m then [⟨w.m, min w.c x.m⟩] else []
  | _ => cutW x w
theorem cutN1 (x w : Vec) : cutN x w 2 = cutN x w 1 ++ (if max w.m x.c < w.c then [⟨max w.m x.c, w.c⟩] else []) := rfl
theorem without_v (l : List Vec) (hl : l.length ≤ 100000000) (t : Tok) (x : Vec) : VPure Try.prog 43 [.sl (l.map Vec.a) t, .agg [.int .i64 x.m, .int .i64 x.c]] (.sl ((withoutF l x).map Vec.a) .no) := by
  refine VPure.tok (fun Z st => ?_)
  refine VCalls.of v_slot_without_ok (Nat.le_of_ble_eq_true rfl) ?_
  simp only [v_slot_without, ↓vD, vU, ↓vMd, vMu, vZ, seval, k_app, k_slc1]
  (repeat' (first | (simp (maxDischargeDepth := 16) only [*, cut0, vX, ↓vD, vU, ↓vMd, vMu, vZ, seval]) | (simp (disch := first | assumption | omega | rfl | exact fun _ => rfl) only [cut0, vP]) | ((with_reducible first | apply gsnd | apply csnd | apply gsd | apply csd | apply gsn | apply csn | apply gs | apply cs_) <;> intro _) | (with_reducible refine objQ_i (fun _ _ => ?_); repeat with_reducible refine imp_i (fun _ => ?_)) | ((try with_reducible refine appK_a ?_); first | (with_reducible refine appD_F (by refine ⟨?_, ?_, ?_, ?_⟩ <;> (first | assumption | omega | exact St.has_add (by assumption) | (simp only [ins_has]; exact St.has_add (by assumption)) | (simp only [ins_has, fresh_ins, kill_ins, add_ins] at *; exact St.has_add (by assumption)) | (simp only [*, ins_has, has_full, St.has_add]; done) | (simp [-List.map_take, -List.map_drop, or_imp, forall_and, Seg.a, Vec.a, Leg.a, num, okEl, cells_agg, cells_int, cells_sl, cells_bool, AV.isCell]; done) | (simp; omega))) (fun _ _ => ?_)) | (with_reducible refine appD_V (by refine ⟨?_, ?_, ?_, ?_, ?_⟩ <;> (first | assumption | omega | exact St.has_add (by assumption) | (simp only [ins_has]; exact St.has_add (by assumption)) | (simp only [ins_has, fresh_ins, kill_ins, add_ins] at *; exact St.has_add (by assumption)) | (simp only [*, ins_has, has_full, St.has_add]; done) | (simp [-List.map_take, -List.map_drop, or_imp, forall_and, Seg.a, Vec.a, Leg.a, num, okEl, cells_agg, cells_int, cells_sl, cells_bool, AV.isCell]; done) | (simp; omega))) (fun _ _ => ?_))) | (with_reducible refine freshQ_i (fun _ _ => ?_))))
  rename_i b3 h3
  refine loopf_of (len := l.length) (by simp only [asgL, dsts, List.cons_append, List.nil_append, List.append_nil]; rfl) (by simp only [noR, Bool.and_true, Bool.and_false]; rfl) (by omega) (fun k fr s => ∃ acc tk S, s = S.ins b3 (.cells [.int .i64 x.m, .int .i64 x.c]) ∧ Ours 2 st S tk ∧ fr.t 14 = .int .i64 k ∧ fr.t 5 = .sl (acc.map Vec.a) tk ∧ Hid (acc = withoutF (l.take k) x) ∧ acc.length ≤ 2 * k) ?_ ?_ ?_
  · exact ⟨[], .full, st, rfl, Ours.full 2 st, by simp [↓vD, vU, ↓vMd, vMu, vZ, seval, k_app, k_slc1], by simp [↓vD, vU, ↓vMd, vMu, vZ, seval, k_app, k_slc1], ⟨rfl⟩, by simp⟩
  · rintro k fr s hk hw hfr hd ⟨acc, tk, S, rfl, ho, h14, h5, HA, hal⟩
    have hb3 : S.objs b3 = none := by rw [ho.objs]; exact h3
    obtain ⟨w, hx⟩ : ∃ w, l[k] = w := ⟨_, rfl⟩
    have HX := Hid.mk hx
    (repeat' (first | (simp (maxDischargeDepth := 16) only [*, Vec.a, vX, ↓vD, vU, ↓vMd, vMu, vZ, seval]) | (simp (disch := first | assumption | omega | rfl | exact fun _ => rfl) only [Vec.a, vP]) | ((with_reducible first | apply gsnd | apply csnd | apply gsd | apply csd | apply gsn | apply csn | apply gs | apply cs_) <;> intro _) | (with_reducible refine objQ_i (fun _ _ => ?_); repeat with_reducible refine imp_i (fun _ => ?_)) | ((try with_reducible refine appK_a ?_); first | (with_reducible refine appD_F (by refine ⟨?_, ?_, ?_, ?_⟩ <;> (first | assumption | omega | exact St.has_add (by assumption) | (simp only [ins_has]; exact St.has_add (by assumption)) | (simp only [ins_has, fresh_ins, kill_ins, add_ins] at *; exact St.has_add (by assumption)) | (simp only [*, ins_has, has_full, St.has_add]; done) | (simp [-List.map_take, -List.map_drop, or_imp, forall_and, Seg.a, Vec.a, Leg.a, num, okEl, cells_agg, cells_int, cells_sl, cells_bool, AV.isCell]; done) | (simp; omega))) (fun _ _ => ?_)) | (with_reducible refine appD_V (by refine ⟨?_, ?_, ?_, ?_, ?_⟩ <;> (first | assumption | omega | exact St.has_add (by assumption) | (simp only [ins_has]; exact St.has_add (by assumption)) | (simp only [ins_has, fresh_ins, kill_ins, add_ins] at *; exact St.has_add (by assumption)) | (simp only [*, ins_has, has_full, St.has_add]; done) | (simp [-List.map_take, -List.map_drop, or_imp, forall_and, Seg.a, Vec.a, Leg.a, num, okEl, cells_agg, cells_int, cells_sl, cells_bool, AV.isCell]; done) | (simp; omega))) (fun _ _ => ?_))) | (with_reducible refine freshQ_i (fun _ _ => ?_))))
    rename_i b7 h7 n73 n37
    refine loopf_of (len := 2) (by simp only [asgL, dsts, List.cons_append, List.nil_append, List.append_nil]; rfl) (by simp only [noR, Bool.and_true, Bool.and_false]; rfl) (by omega) (fun j fr2 s2 => ∃ acc2 tk2 S2, s2 = (S2.ins b3 (.cells [.int .i64 x.m, .int .i64 x.c])).ins b7 (.cells [.int .i64 w.m, .int .i64 w.c]) ∧ Ours 2 st S2 tk2 ∧ fr2.t 35 = .int .i64 j ∧ fr2.t 5 = .sl (acc2.map Vec.a) tk2 ∧ Hid (acc2 = acc ++ cutN x w j) ∧ acc2.length ≤ 2 * k + j) ?_ ?_ ?_
    · exact ⟨acc, tk, S, rfl, ho, by simp [↓vD, vU, ↓vMd, vMu, vZ, seval, k_app, k_slc1], by simp [↓vD, vU, ↓vMd, vMu, vZ, seval, k_app, k_slc1, *], ⟨by simp [cutN]⟩, by omega⟩
    · rintro j fr2 s2 hj hw2 hfr2 hd2 ⟨acc2, tk2, S2, rfl, ho2, h35, h52, HA2, hal2⟩
      have hts := ho2.has
      have hob : S2.objs = S.objs := ho2.objs.trans ho.objs.symm
      have h3' : S2.objs b3 = none := by rw [hob]; exact hb3
      have h7' : S2.objs b7 = none := by rw [hob]; exact h7
      rcases (by omega : j = 0 ∨ j = 1) with rfl | rfl
      · simp only [Int.cast_ofNat_Int, Int.natCast_zero] at hw2 h35
        (repeat' (first | (simp (maxDischargeDepth := 16) only [*, Vec.a, grab01, vX, ↓vD, vU, ↓vMd, vMu, vZ, seval]) | (simp (disch := first | assumption | omega | rfl | exact fun _ => rfl) only [Vec.a, grab01, vP]) | ((with_reducible first | apply gsnd | apply csnd | apply gsd | apply csd | apply gsn | apply csn | apply gs | apply cs_) <;> intro _) | (with_reducible refine objQ_i (fun _ _ => ?_); repeat with_reducible refine imp_i (fun _ => ?_)) | ((try with_reducible refine appK_a ?_); first | (with_reducible refine appD_F (by refine ⟨?_, ?_, ?_, ?_⟩ <;> (first | assumption | omega | exact St.has_add (by assumption) | (simp only [ins_has]; exact St.has_add (by assumption)) | (simp only [ins_has, fresh_ins, kill_ins, add_ins] at *; exact St.has_add (by assumption)) | (simp only [*, ins_has, has_full, St.has_add]; done) | (simp [-List.map_take, -List.map_drop, or_imp, forall_and, Seg.a, Vec.a, Leg.a, num, okEl, cells_agg, cells_int, cells_sl, cells_bool, AV.isCell]; done) | (simp; omega))) (fun _ _ => ?_)) | (with_reducible refine appD_V (by refine ⟨?_, ?_, ?_, ?_, ?_⟩ <;> (first | assumption | omega | exact St.has_add (by assumption) | (simp only [ins_has]; exact St.has_add (by assumption)) | (simp only [ins_has, fresh_ins, kill_ins, add_ins] at *; exact St.has_add (by assumption)) | (simp only [*, ins_has, has_full, St.has_add]; done) | (simp [-List.map_take, -List.map_drop, or_imp, forall_and, Seg.a, Vec.a, Leg.a, num, okEl, cells_agg, cells_int, cells_sl, cells_bool, AV.isCell]; done) | (simp; omega))) (fun _ _ => ?_))) | (with_reducible refine freshQ_i (fun _ _ => ?_))))
        · rename_i b9 h9 n1 n2 n3 n4 hc t1 hf
          have ho3 := ho2.next (t' := t1) (by simpa only [kill_ins, fresh_ins] using hf)
          refine ⟨_, by (refine ⟨fun i o e => ?_, fun _ h => h⟩; revert e; simp only [St.ins, St.del, add_objs, kill_objs]; (repeat' split); all_goals (first | exact id | (intros; contradiction) | (intros; subst_vars; contradiction) | (intros; simp_all; done) | (intros; subst_vars; simp_all; done))), acc2 ++ [⟨w.m, min w.c x.m⟩], t1, _, rfl, ho3, by simp [Vec.a], ⟨?_⟩, by simp; omega⟩
          rw [HA2.out]; simp [cutN, hc]
        · rename_i b9 h9 n1 n2 n3 n4 hc
          refine ⟨_, by (refine ⟨fun i o e => ?_, fun _ h => h⟩; revert e; simp only [St.ins, St.del, add_objs, kill_objs]; (repeat' split); all_goals (first | exact id | (intros; contradiction) | (intros; subst_vars; contradiction) | (intros; simp_all; done) | (intros; subst_vars; simp_all; done))), acc2, tk2, _, rfl, ho2, rfl, ⟨?_⟩, by omega⟩
          rw [HA2.out]; simp [cutN, hc]
      · simp only [Int.cast_ofNat_Int, Int.natCast_one] at hw2 h35
        (repeat' (first | (simp (maxDischargeDepth := 16) only [*, Vec.a, grab23, vX, ↓vD, vU, ↓vMd, vMu, vZ, seval]) | (simp (disch := first | assumption | omega | rfl | exact fun _ => rfl) only [Vec.a, grab23, vP]) | ((with_reducible first | apply gsnd | apply csnd | apply gsd | apply csd | apply gsn | apply csn | apply gs | apply cs_) <;> intro _) | (with_reducible refine objQ_i (fun _ _ => ?_); repeat with_reducible refine imp_i (fun _ => ?_)) | ((try with_reducible refine appK_a ?_); first | (with_reducible refine appD_F (by refine ⟨?_, ?_, ?_, ?_⟩ <;> (first | assumption | omega | exact St.has_add (by assumption) | (simp only [ins_has]; exact St.has_add (by assumption)) | (simp only [ins_has, fresh_ins, kill_ins, add_ins] at *; exact St.has_add (by assumption)) | (simp only [*, ins_has, has_full, St.has_add]; done) | (simp [-List.map_take, -List.map_drop, or_imp, forall_and, Seg.a, Vec.a, Leg.a, num, okEl, cells_agg, cells_int, cells_sl, cells_bool, AV.isCell]; done) | (simp; omega))) (fun _ _ => ?_)) | (with_reducible refine appD_V (by refine ⟨?_, ?_, ?_, ?_, ?_⟩ <;> (first | assumption | omega | exact St.has_add (by assumption) | (simp only [ins_has]; exact St.has_add (by assumption)) | (simp only [ins_has, fresh_ins, kill_ins, add_ins] at *; exact St.has_add (by assumption)) | (simp only [*, ins_has, has_full, St.has_add]; done) | (simp [-List.map_take, -List.map_drop, or_imp, forall_and, Seg.a, Vec.a, Leg.a, num, okEl, cells_agg, cells_int, cells_sl, cells_bool, AV.isCell]; done) | (simp; omega))) (fun _ _ => ?_))) | (with_reducible refine freshQ_i (fun _ _ => ?_))))
        · rename_i b9 h9 n1 n2 n3 n4 hc t1 hf
          have ho3 := ho2.next (t' := t1) (by simpa only [kill_ins, fresh_ins] using hf)
          refine ⟨_, by (refine ⟨fun i o e => ?_, fun _ h => h⟩; revert e; simp only [St.ins, St.del, add_objs, kill_objs]; (repeat' split); all_goals (first | exact id | (intros; contradiction) | (intros; subst_vars; contradiction) | (intros; simp_all; done) | (intros; subst_vars; simp_all; done))), acc2 ++ [⟨max w.m x.c, w.c⟩], t1, _, rfl, ho3, by simp [Vec.a], ⟨?_⟩, by simp; omega⟩
          rw [HA2.out, cutN1, if_pos hc, List.append_assoc]
        · rename_i b9 h9 n1 n2 n3 n4 hc
          refine ⟨_, by (refine ⟨fun i o e => ?_, fun _ h => h⟩; revert e; simp only [St.ins, St.del, add_objs, kill_objs]; (repeat' split); all_goals (first | exact id | (intros; contradiction) | (intros; subst_vars; contradiction) | (intros; simp_all; done) | (intros; subst_vars; simp_all; done))), acc2, tk2, _, rfl, ho2, rfl, ⟨?_⟩, by omega⟩
          rw [HA2.out, cutN1, if_neg hc, List.append_nil]
    · rintro fr2 s2 hfr2 hd2 ⟨acc2, tk2, S2, rfl, ho2, h35, h52, HA2, hal2⟩
      have hob : S2.objs = S.objs := ho2.objs.trans ho.objs.symm
      have h3' : S2.objs b3 = none := by rw [hob]; exact hb3
      have h7' : S2.objs b7 = none := by rw [hob]; exact h7
      (repeat' (first | (simp (maxDischargeDepth := 16) only [*, Vec.a, vX, ↓vD, vU, ↓vMd, vMu, vZ, seval]) | (simp (disch := first | assumption | omega | rfl | exact fun _ => rfl) only [Vec.a, vP]) | ((with_reducible first | apply gsnd | apply csnd | apply gsd | apply csd | apply gsn | apply csn | apply gs | apply cs_) <;> intro _) | (with_reducible refine objQ_i (fun _ _ => ?_); repeat with_reducible refine imp_i (fun _ => ?_)) | ((try with_reducible refine appK_a ?_); first | (with_reducible refine appD_F (by refine ⟨?_, ?_, ?_, ?_⟩ <;> (first | assumption | omega | exact St.has_add (by assumption) | (simp only [ins_has]; exact St.has_add (by assumption)) | (simp only [ins_has, fresh_ins, kill_ins, add_ins] at *; exact St.has_add (by assumption)) | (simp only [*, ins_has, has_full, St.has_add]; done) | (simp [-List.map_take, -List.map_drop, or_imp, forall_and, Seg.a, Vec.a, Leg.a, num, okEl, cells_agg, cells_int, cells_sl, cells_bool, AV.isCell]; done) | (simp; omega))) (fun _ _ => ?_)) | (with_reducible refine appD_V (by refine ⟨?_, ?_, ?_, ?_, ?_⟩ <;> (first | assumption | omega | exact St.has_add (by assumption) | (simp only [ins_has]; exact St.has_add (by assumption)) | (simp only [ins_has, fresh_ins, kill_ins, add_ins] at *; exact St.has_add (by assumption)) | (simp only [*, ins_has, has_full, St.has_add]; done) | (simp [-List.map_take, -List.map_drop, or_imp, forall_and, Seg.a, Vec.a, Leg.a, num, okEl, cells_agg, cells_int, cells_sl, cells_bool, AV.isCell]; done) | (simp; omega))) (fun _ _ => ?_))) | (with_reducible refine freshQ_i (fun _ _ => ?_))))
      refine ⟨_, by (refine ⟨fun i o e => ?_, fun _ h => h⟩; revert e; simp only [St.ins, St.del, add_objs, kill_objs]; (repeat' split); all_goals (first | exact id | (intros; contradiction) | (intros; subst_vars; contradiction) | (intros; simp_all; done) | (intros; subst_vars; simp_all; done))), acc2, tk2, S2, rfl, ho2, rfl, ⟨?_⟩, by omega⟩
      rw [HA2.out, HA.out, withoutF_take hk, HX.out]; rfl
  · rintro fr s hfr hd ⟨acc, tk, S, rfl, ho, h14, h5, HA, hal⟩
    have hb3 : S.objs b3 = none := by rw [ho.objs]; exact h3
    have hun := ho.under
    (repeat' (first | (simp (maxDischargeDepth := 16) only [*, vX, ↓vD, vU, ↓vMd, vMu, vZ, seval]) | (simp (disch := first | assumption | omega | rfl | exact fun _ => rfl) only [vP]) | ((with_reducible first | apply gsnd | apply csnd | apply gsd | apply csd | apply gsn | apply csn | apply gs | apply cs_) <;> intro _) | (with_reducible refine objQ_i (fun _ _ => ?_); repeat with_reducible refine imp_i (fun _ => ?_)) | ((try with_reducible refine appK_a ?_); first | (with_reducible refine appD_F (by refine ⟨?_, ?_, ?_, ?_⟩ <;> (first | assumption | omega | exact St.has_add (by assumption) | (simp only [ins_has]; exact St.has_add (by assumption)) | (simp only [ins_has, fresh_ins, kill_ins, add_ins] at *; exact St.has_add (by assumption)) | (simp only [*, ins_has, has_full, St.has_add]; done) | (simp [-List.map_take, -List.map_drop, or_imp, forall_and, Seg.a, Vec.a, Leg.a, num, okEl, cells_agg, cells_int, cells_sl, cells_bool, AV.isCell]; done) | (simp; omega))) (fun _ _ => ?_)) | (with_reducible refine appD_V (by refine ⟨?_, ?_, ?_, ?_, ?_⟩ <;> (first | assumption | omega | exact St.has_add (by assumption) | (simp only [ins_has]; exact St.has_add (by assumption)) | (simp only [ins_has, fresh_ins, kill_ins, add_ins] at *; exact St.has_add (by assumption)) | (simp only [*, ins_has, has_full, St.has_add]; done) | (simp [-List.map_take, -List.map_drop, or_imp, forall_and, Seg.a, Vec.a, Leg.a, num, okEl, cells_agg, cells_int, cells_sl, cells_bool, AV.isCell]; done) | (simp; omega))) (fun _ _ => ?_))) | (with_reducible refine freshQ_i (fun _ _ => ?_))))
    refine ⟨st, hun.trans (by (refine ⟨fun i o e => ?_, fun _ h => h⟩; revert e; simp only [St.ins, St.del, add_objs, kill_objs]; (repeat' split); all_goals (first | exact id | (intros; contradiction) | (intros; subst_vars; contradiction) | (intros; simp_all; done) | (intros; subst_vars; simp_all; done)))), tk, ?_, rfl⟩
    rw [HA.out, List.take_length]
end Go.Proofs.Ytglekfgoadehbaa.V
end
section
set_option linter.unusedSimpArgs false
set_option linter.unusedVariables false
/- slot.Begins. -/
namespace Go.Proofs.Ytglekfgoadehbaa.V
open Go Go.Proofs
set_option maxRecDepth 100000
set_option maxHeartbeats 4000000
theorem Begins_c (f : List Seg) (hf : f.length ≤ 1000000) (w : Vec) (h1 : -9223372036854775808 ≤ w.m) (h2 : w.c ≤ 9223372036854775807) (l : List Leg) (hl : l.length ≤ 1000000000) (t t' : Tok) :
    VPure Try.prog 23 [.sl (f.map Seg.a) t, .agg [.int .i64 w.m, .int .i64 w.c], .sl (l.map Leg.a) t'] (.tup [.sl ((beginsF f w l).1.map Vec.a) .no, num (beginsF f w l).2]) := by
  refine VPure.tokT (fun Z st => ?_)
  have hck := check_v f (by omega) w h1 h2 l hl t t'
  obtain ⟨q, hq⟩ : ∃ q, checkF f w l = q := ⟨_, rfl⟩
  rw [hq] at hck
  unfold num at hck
  by_cases hok : q.2 = 0
  case neg =>
    have HB : Hid (beginsF f w l = ([], q.2)) := ⟨by unfold beginsF; rw [hq, if_pos (.inl hok)]⟩
    clear hq
    refine VCalls.of v_slot_Begins_ok (Nat.le_of_ble_eq_true rfl) ?_
    simp only [v_slot_Begins, ↓vD, vU, ↓vMd, vMu, vZ, seval, k_app, k_slc1]
    (repeat' (first | (simp (maxDischargeDepth := 16) only [*, vX, ↓vD, vU, ↓vMd, vMu, vZ, seval]) | (simp (disch := first | assumption | omega | rfl | exact fun _ => rfl) only [vP]) | ((with_reducible first | apply gsnd | apply csnd | apply gsd | apply csd | apply gsn | apply csn | apply gs | apply cs_) <;> intro _) | (with_reducible refine objQ_i (fun _ _ => ?_); repeat with_reducible refine imp_i (fun _ => ?_)) | (with_reducible first | refine callH_use (hck) ?_ | refine pureQ_use (hck) ?_)))
    exact ⟨st, by (refine ⟨fun i o e => ?_, fun _ h => h⟩; revert e; simp only [St.ins, St.del, add_objs, kill_objs]; (repeat' split); all_goals (first | exact id | (intros; contradiction) | (intros; subst_vars; contradiction) | (intros; simp_all; done) | (intros; subst_vars; simp_all; done))), .full, by rw [HB.out]; rfl, rfl⟩
  have hO := check_ok.1 (by rw [hq]; exact hok)
  have hs := check_1 hO
  rw [hq] at hs
  obtain ⟨n, hn⟩ : ∃ n, sumD l = n := ⟨_, rfl⟩
  rw [hn] at hs
  have HBn : Hid (beginsF f w l = if w.c - w.m < n then ([], 0) else (legsF f w l 0 [⟨w.m, w.c - n + 1⟩], 0)) := ⟨by unfold beginsF; rw [hq, hs]; simp⟩
  subst hs
  simp only at hck
  have hn0 : 0 ≤ n := by
    rw [← hn]
    have := hO.pos
    clear hO hq hn HBn hck
    induction l with
    | nil => simp [sumD]
    | cons x r ih => have h3 := ih (by simp at hl; omega) (fun y hy => this y (by simp [hy])); have h4 := this x (by simp); simp only [sumD]; omega
  have hw := hO.win
  have hsp := hO.span
  have hfr := hO.from_
  have hto := hO.to_
  simp only [farF, Bool.or_eq_false_iff, decide_eq_false_iff_not] at hfr hto
  obtain ⟨hf1, hf2⟩ := hfr
  obtain ⟨ht1, ht2⟩ := hto
  have hl16 := hO.len.2
  have HO := Hid.mk hO
  clear hq hn hok hO
  by_cases hbig : w.c - w.m < n
  · have hb2 : IntKind.i64.wrap (w.c - w.m) = w.c - w.m := wrap_i64 _ (by omega) (by omega)
    refine VCalls.of v_slot_Begins_ok (Nat.le_of_ble_eq_true rfl) ?_
    simp only [v_slot_Begins, ↓vD, vU, ↓vMd, vMu, vZ, seval, k_app, k_slc1]
    (repeat' (first | (simp (maxDischargeDepth := 16) only [*, vX, ↓vD, vU, ↓vMd, vMu, vZ, seval]) | (simp (disch := first | assumption | omega | rfl | exact fun _ => rfl) only [vP]) | ((with_reducible first | apply gsnd | apply csnd | apply gsd | apply csd | apply gsn | apply csn | apply gs | apply cs_) <;> intro _) | (with_reducible refine objQ_i (fun _ _ => ?_); repeat with_reducible refine imp_i (fun _ => ?_)) | (with_reducible first | refine callH_use (hck) ?_ | refine pureQ_use (hck) ?_)))
    exact ⟨st, by (refine ⟨fun i o e => ?_, fun _ h => h⟩; revert e; simp only [St.ins, St.del, add_objs, kill_objs]; (repeat' split); all_goals (first | exact id | (intros; contradiction) | (intros; subst_vars; contradiction) | (intros; simp_all; done) | (intros; subst_vars; simp_all; done))), .full, by rw [HBn.out, if_pos hbig]; rfl, rfl⟩
  have HB : Hid (beginsF f w l = (legsF f w l 0 [⟨w.m, w.c - n + 1⟩], 0)) := ⟨by rw [HBn.out, if_neg hbig]⟩
  clear HBn
  have hb2 : IntKind.i64.wrap (w.c - w.m) = w.c - w.m := wrap_i64 _ (by omega) (by omega)
  refine VCalls.of v_slot_Begins_ok (Nat.le_of_ble_eq_true rfl) ?_
  simp only [v_slot_Begins, ↓vD, vU, ↓vMd, vMu, vZ, seval, k_app, k_slc1]
  (repeat' (first | (simp (maxDischargeDepth := 16) only [*, vX, ↓vD, vU, ↓vMd, vMu, vZ, seval]) | (simp (disch := first | assumption | omega | rfl | exact fun _ => rfl) only [vP]) | ((with_reducible first | apply gsnd | apply csnd | apply gsd | apply csd | apply gsn | apply csn | apply gs | apply cs_) <;> intro _) | (with_reducible refine objQ_i (fun _ _ => ?_); repeat with_reducible refine imp_i (fun _ => ?_)) | (with_reducible first | refine callH_use (hck) ?_ | refine pureQ_use (hck) ?_)))
  rename_i b4 h4 b10 h10 n1 n2 b11 h11 n3 n4 n5 n6
  refine loopf_of (len := l.length) (by simp only [asgL, dsts, List.cons_append, List.nil_append, List.append_nil]; rfl) (by simp only [noR, Bool.and_true, Bool.and_false]; rfl) (by omega) (fun k fr s => ∃ (ds : List Nat) (out : List Vec) (a : Int) (tk : Tok) (S : St), s = ((S.ins b4 (.cells [.int .i64 w.m, .int .i64 w.c])).ins b10 (.cells [.sl (out.map Vec.a) tk])).ins b11 (.cells [.int .i64 a]) ∧ fr.t 45 = .int .i64 k ∧ fr.d = ds ∧ DS st S ds ∧ (S.objs b4 = none ∧ S.objs b10 = none ∧ S.objs b11 = none) ∧
    Rows w.m (w.c + 1) out ∧ 0 ≤ a ∧ a ≤ 4096 * k ∧ Hid (legsF f w (l.drop k) a out = legsF f w l 0 [⟨w.m, w.c - n + 1⟩])) ?_ ?_ ?_
  · exact ⟨[], [⟨w.m, w.c - n + 1⟩], 0, .full, st, rfl, by simp [↓vD, vU, ↓vMd, vMu, vZ, seval, k_app, k_slc1], by simp [↓vD, vU, ↓vMd, vMu, vZ, seval, k_app, k_slc1, initFr], DS.nil (St.le.refl _), ⟨h4, h10, h11⟩, ⟨by simp, by simp only; omega, by simp only; omega, trivial⟩, by omega, by omega, ⟨rfl⟩⟩
  · rintro k fr s hk hwr hfr hd ⟨ds, out, a, tk, S, rfl, h45, hdd, hDS, ⟨h4', h10', h11'⟩, hR, ha0, ha1, HK⟩
    obtain ⟨x, hx⟩ : ∃ x, l[k] = x := ⟨_, rfl⟩
    have hxd := HO.out.pos x (by rw [← hx]; exact List.getElem_mem _)
    have hlow := low_c f w x.v t
    have HN : Hid (legsF f w (l.drop (k + 1)) (a + x.d) (cutsF x.d a (lowF f w x.v) out) = legsF f w l 0 [⟨w.m, w.c - n + 1⟩]) := ⟨by rw [← HK.out, List.drop_eq_getElem_cons hk, hx, legsF]⟩
    have hin := fun b (hb : b ∈ lowF f w x.v) => And.intro (lowF_ne HO.out.may HO.out.win x.v b hb) (lowF_in (f := f) (v := x.v) (w := w) (by omega) b hb)
    have HIn := Hid.mk hin
    clear HK hin
    unfold Vec.a at hlow
    (repeat' (first | (simp (maxDischargeDepth := 16) only [*, Leg.a, Vec.a, vX, ↓vD, vU, ↓vMd, vMu, vZ, seval]) | (simp (disch := first | assumption | omega | rfl | exact fun _ => rfl) only [Leg.a, Vec.a, vP]) | ((with_reducible first | apply gsnd | apply csnd | apply gsd | apply csd | apply gsn | apply csn | apply gs | apply cs_) <;> intro _) | (with_reducible refine objQ_i (fun _ _ => ?_); repeat with_reducible refine imp_i (fun _ => ?_)) | (with_reducible first | refine callH_use (hlow) ?_ | refine pureQ_use (hlow) ?_)))
    rename_i b13 h13 m1 m2 m3 m4 m5 m6
    have HL : Hid (lowF f w x.v = lowF f w x.v) := ⟨rfl⟩
    refine rng_iter (gf := 74) (fs := []) (by simp only [↓vD, vU, ↓vMd, vMu, vZ, seval, k_app, k_slc1]; rfl) (low_it f (by omega) w x.v t) (by simp) (fun j T => ∃ out2 tk2, T = (((S.ins b4 (.cells [.int .i64 w.m, .int .i64 w.c])).ins b10 (.cells [.sl (out2.map Vec.a) tk2])).ins b11 (.cells [.int .i64 a])).ins b13 (.cells [.int .i64 x.d, .int .i64 x.v.m, .int .i64 x.v.c]) ∧ Rows w.m (w.c + 1) out2 ∧ Hid (cutsF x.d a ((lowF f w x.v).drop j) out2 = cutsF x.d a (lowF f w x.v) out)) (fun _ _ => False) ⟨out, tk, rfl, hR, ⟨by simp⟩⟩ ?_ ?_ (by intro _ _ _ _ _ _ _ h; exact h.elim)
    · rintro Y l0 D r hzy nlD nDl j hj T ⟨out2, tk2, rfl, hR2, HK2⟩ hTl hTD
      simp only [ins_objs, ite_some_none] at hTl hTD
      obtain ⟨q1, q2, q3, q4, q5, q6, q7, q8, hSl⟩ := hTl
      obtain ⟨r1, r2, r3, r4, r5, r6, r7, r8, hSD⟩ := hTD
      rw [List.length_map] at hj
      simp only [List.getElem_map]
      have HC := HK2.out
      rw [List.drop_eq_getElem_cons hj, cutsF] at HC
      have hb := HIn.out _ (List.getElem_mem hj)
      obtain ⟨bad, hbad⟩ : ∃ b, (lowF f w x.v)[j] = b := ⟨_, rfl⟩
      rw [hbad] at HC hb ⊢
      have HC2 := Hid.mk HC
      have hlen := hR2.len (by omega)
      have hwo := without_v out2 (by omega) tk2 (shiftW x.d a bad)
      have hR3 := hR2.without (x := shiftW x.d a bad) (by simp only [shiftW]; omega)
      simp only [shiftW] at hwo
      clear HC HK2 hbad
      (repeat' (first | (simp (maxDischargeDepth := 16) only [*, argsFr1_t, argsFr1_d, Vec.a, Leg.a, rq_normal, vX, ↓vD, vU, ↓vMd, vMu, vZ, seval]) | (simp (disch := first | assumption | omega | rfl | exact fun _ => rfl) only [argsFr1_t, argsFr1_d, Vec.a, Leg.a, rq_normal, vP]) | ((with_reducible first | apply gsnd | apply csnd | apply gsd | apply csd | apply gsn | apply csn | apply gs | apply cs_) <;> intro _) | (with_reducible refine objQ_i (fun _ _ => ?_); repeat with_reducible refine imp_i (fun _ => ?_)) | (with_reducible first | refine callH_use (hwo) ?_ | refine pureQ_use (hwo) ?_)))
      exact ⟨_, ⟨⟨_, .no, rfl, hR3, HC2⟩, (by simp only [ins_objs, kill_objs, add_objs, *, if_false, if_true, not_false_eq_true, ite_some_none, and_self, and_true, true_and])⟩, (by simp only [ins_objs, kill_objs, add_objs, *, if_false, if_true, not_false_eq_true, ite_some_none, and_self, and_true, true_and]), by (refine leX.start ?_ rfl; (repeat (refine leX.in_ (by simp only [*, ins_objs, if_true, if_false]; first | done | rfl) ?_)); (repeat (first | refine leX.new (by first | assumption | (rw [hob]; assumption)) ?_ | refine leX.old (by (simp only [List.mem_cons, true_or, or_true, eq_self]; done)) ?_)); exact leX.refl _ _)⟩
    · rintro D l0 o T nlD nDl ⟨out2, tk2, rfl, hR2, HK2⟩ hTl hTD
      simp only [ins_objs, ite_some_none] at hTl hTD
      obtain ⟨q1, q2, q3, q4, q5, q6, q7, q8, hSl⟩ := hTl
      obtain ⟨r1, r2, r3, r4, r5, r6, r7, r8, hSD⟩ := hTD
      rw [List.length_map, List.drop_length, cutsF] at HK2
      have HC := HK2.out
      subst HC
      (repeat' (first | (simp (maxDischargeDepth := 16) only [*, Leg.a, Vec.a, vX, ↓vD, vU, ↓vMd, vMu, vZ, seval]) | (simp (disch := first | assumption | omega | rfl | exact fun _ => rfl) only [Leg.a, Vec.a, vP]) | ((with_reducible first | apply gsnd | apply csnd | apply gsd | apply csd | apply gsn | apply csn | apply gs | apply cs_) <;> intro _) | (with_reducible refine objQ_i (fun _ _ => ?_); repeat with_reducible refine imp_i (fun _ => ?_))))
      exact ⟨_, by (refine leX.start ?_ rfl; (repeat (refine leX.in_ (by simp only [*, ins_objs, if_true, if_false]; first | done | rfl) ?_)); (repeat (first | refine leX.new (by first | assumption | (rw [hob]; assumption)) ?_ | refine leX.old (by (simp only [List.mem_cons, true_or, or_true, eq_self]; done)) ?_)); exact leX.refl _ _), D :: ds, _, a + x.d, tk2, S.ins D dobj, rfl, rfl, hDS.cons hSD, ⟨(by simp only [ins_objs, kill_objs, add_objs, *, if_false, if_true, not_false_eq_true, ite_some_none, and_self, and_true, true_and]), (by simp only [ins_objs, kill_objs, add_objs, *, if_false, if_true, not_false_eq_true, ite_some_none, and_self, and_true, true_and]), (by simp only [ins_objs, kill_objs, add_objs, *, if_false, if_true, not_false_eq_true, ite_some_none, and_self, and_true, true_and])⟩, hR2, by omega, by omega, HN⟩
  · rintro fr s hfr hd ⟨ds, out, a, tk, S, rfl, h45, hdd, hDS, ⟨h4', h10', h11'⟩, hR, ha0, ha1, HK⟩
    rw [List.drop_length, legsF] at HK
    have hle : S.le (((S.ins b4 (.cells [.int .i64 w.m, .int .i64 w.c])).ins b10 (.cells [.sl (out.map Vec.a) tk])).ins b11 (.cells [.int .i64 a])) := by (refine ⟨fun i o e => ?_, fun _ h => h⟩; revert e; simp only [St.ins, St.del, add_objs, kill_objs]; (repeat' split); all_goals (first | exact id | (intros; contradiction) | (intros; subst_vars; contradiction) | (intros; simp_all; done) | (intros; subst_vars; simp_all; done)))
    (repeat' (first | (simp (maxDischargeDepth := 16) only [*, vX, ↓vD, vU, ↓vMd, vMu, vZ, seval]) | (simp (disch := first | assumption | omega | rfl | exact fun _ => rfl) only [vP]) | ((with_reducible first | apply gsnd | apply csnd | apply gsd | apply csd | apply gsn | apply csn | apply gs | apply cs_) <;> intro _) | (with_reducible refine objQ_i (fun _ _ => ?_); repeat with_reducible refine imp_i (fun _ => ?_))))
    · rename_i hc
      have ho : out = [] := by
        have : out.length = 0 := by first | omega | simpa using hc
        exact List.length_eq_zero_iff.1 this
      refine ⟨_, st, rfl, hDS.fin hle, hDS.2.1, hDS.1.trans hle, .full, ?_, rfl⟩
      rw [HB.out, ← HK.out, ho]; rfl
    · refine ⟨_, st, rfl, hDS.fin hle, hDS.2.1, hDS.1.trans hle, tk, ?_, rfl⟩
      rw [HB.out, ← HK.out]; rfl
end Go.Proofs.Ytglekfgoadehbaa.V
end
section
set_option linter.unusedSimpArgs false
set_option linter.unusedVariables false
/- Bounds of begins, in plain Lean. -/
namespace Go.Proofs.Ytglekfgoadehbaa.V
open Go Go.Proofs
theorem beginsF_len (f : List Seg) (w : Vec) (l : List Leg) : (beginsF f w l).1.length ≤ 5000 ∧ ∀ x ∈ (beginsF f w l).1, -9000000000000000000 ≤ x.c ∧ x.c ≤ 9000000000000000000 := by
  by_cases h : (checkF f w l).2 = 0
  · have hO := check_ok.1 h
    have hr := (begins_is hO).1
    have h1 := hO.win
    have h2 := hO.span
    have h3 := hO.from_
    have h4 := hO.to_
    simp only [farF, Bool.or_eq_false_iff, decide_eq_false_iff_not] at h3 h4
    refine ⟨?_, ?_⟩
    · have := hr.rows.len (by omega)
      omega
    · have key : ∀ (l : List Vec) (lo : Int), w.m ≤ lo → RowsG lo (w.c + 1) l → ∀ x ∈ l, w.m ≤ x.c ∧ x.c ≤ w.c + 1 := by
        intro l
        induction l with
        | nil => intro _ _ _ x hx; cases hx
        | cons y r ih =>
          rintro lo hlo ⟨a, b, c, d⟩ x hx
          rcases List.mem_cons.1 hx with rfl | hx
          · omega
          · exact ih _ (by omega) d x hx
      intro x hx
      have := key _ _ (Int.le_refl _) hr x hx
      omega
  · have : (beginsF f w l).1 = [] := by unfold beginsF; rw [if_pos (.inl h)]
    rw [this]; simp
theorem begins_bd (f : List Seg) (w : Vec) (l : List Leg) : ∀ x ∈ (beginsF f w l).1, (0 ≤ x.c - x.m ∧ x.c - x.m ≤ 5000) ∧ -2000000000000 ≤ x.m ∧ x.c ≤ 2000000000000 := by
  by_cases h : (checkF f w l).2 = 0
  · have hO := check_ok.1 h
    have hr := (begins_is hO).1
    have h1 := hO.win
    have h2 := hO.span
    have h3 := hO.from_
    have h4 := hO.to_
    simp only [farF, Bool.or_eq_false_iff, decide_eq_false_iff_not] at h3 h4
    have key : ∀ (l : List Vec) (lo : Int), w.m ≤ lo → RowsG lo (w.c + 1) l → ∀ x ∈ l, w.m ≤ x.m ∧ x.m < x.c ∧ x.c ≤ w.c + 1 := by
      intro l
      induction l with
      | nil => intro _ _ _ x hx; cases hx
      | cons y r ih =>
        rintro lo hlo ⟨a, b, c, d⟩ x hx
        rcases List.mem_cons.1 hx with rfl | hx
        · omega
        · exact ih _ (by omega) d x hx
    intro x hx
    have := key _ _ (Int.le_refl _) hr x hx
    omega
  · have : (beginsF f w l).1 = [] := by unfold beginsF; rw [if_pos (.inl h)]
    rw [this]; simp
end Go.Proofs.Ytglekfgoadehbaa.V
end
section
set_option linter.unusedSimpArgs false
set_option linter.unusedVariables false
/- The compiled functions of the package cmp (printed by Print.lean of this work). -/
namespace Go.Proofs.Ytglekfgoadehbaa.V
open Go Go.Proofs
def v_cmp_Compare_int64 : VFn := ⟨.seq (.reg [⟨some 4, .mov (.c (.int .i64 0)), none, [], []⟩])
(.seq (.reg [⟨some 7, .mov (.t 0), none, [], []⟩,
 ⟨some 8, .call 69 [(.t 7)], none, [0], []⟩,
 ⟨some 5, .mov (.t 8), none, [1, 1, 0, 1], []⟩])
(.seq (.reg [⟨some 9, .mov (.t 1), none, [], []⟩,
 ⟨some 10, .call 69 [(.t 9)], none, [0], []⟩,
 ⟨some 6, .mov (.t 10), none, [1, 1, 0, 1], []⟩])
(.seq (.seq (.reg [⟨some 11, .mov (.t 5), none, [], []⟩])
(.cond (.t 11)
 (.seq (.seq (.reg [⟨some 12, .mov (.t 6), none, [], []⟩])
 (.cond (.t 12)
 (.seq (.reg [⟨some 4, .mov (.c (.int .i64 0)), none, [], []⟩])
 (.ret))
 (.skip)))
 (.seq (.reg [⟨some 4, .mov (.c (.int .i64 (-1))), none, [], []⟩])
 (.ret)))
 (.skip)))
(.seq (.seq (.reg [⟨some 13, .mov (.t 6), none, [], []⟩])
(.cond (.t 13)
 (.seq (.reg [⟨some 4, .mov (.c (.int .i64 1)), none, [], []⟩])
 (.ret))
 (.skip)))
(.seq (.seq (.reg [⟨some 14, .mov (.t 0), none, [], []⟩,
 ⟨some 15, .mov (.t 1), none, [], []⟩,
 ⟨some 16, .bin .lss (.t 14) (.t 15), none, [0, 1], []⟩])
(.cond (.t 16)
 (.seq (.reg [⟨some 4, .mov (.c (.int .i64 (-1))), none, [], []⟩])
 (.ret))
 (.skip)))
(.seq (.seq (.reg [⟨some 17, .mov (.t 0), none, [], []⟩,
 ⟨some 18, .mov (.t 1), none, [], []⟩,
 ⟨some 19, .bin .gtr (.t 17) (.t 18), none, [0, 1], []⟩])
(.cond (.t 19)
 (.seq (.reg [⟨some 4, .mov (.c (.int .i64 1)), none, [], []⟩])
 (.ret))
 (.skip)))
(.seq (.reg [⟨some 4, .mov (.c (.int .i64 0)), none, [], []⟩])
(.ret)))))))),
[.t 4], 20⟩
theorem v_cmp_Compare_int64_ok : compF Try.prog 40 = some v_cmp_Compare_int64 := by kernel_rfl
def v_cmp_isNaN_int64 : VFn := ⟨.seq (.reg [⟨some 2, .mov (.c (.bool false)), none, [], []⟩])
(.seq (.reg [⟨some 3, .mov (.t 0), none, [], []⟩,
 ⟨some 4, .mov (.t 0), none, [], []⟩,
 ⟨some 5, .bin .neq (.t 3) (.t 4), none, [0, 1], []⟩,
 ⟨some 2, .mov (.t 5), none, [2, 0, 1, 2], []⟩])
(.ret)),
[.t 2], 6⟩
theorem v_cmp_isNaN_int64_ok : compF Try.prog 69 = some v_cmp_isNaN_int64 := by kernel_rfl
end Go.Proofs.Ytglekfgoadehbaa.V
end
section
set_option linter.unusedSimpArgs false
set_option linter.unusedVariables false
/- What the package cost's begins tells; comparing costs. -/
namespace Go.Proofs.Ytglekfgoadehbaa.V
open Go Go.Proofs
set_option maxRecDepth 100000
set_option maxHeartbeats 4000000
def cmpI (a b : Int) : Int := if a < b then -1 else if b < a then 1 else 0
theorem isNaN_v (a : Int) : VPure Try.prog 69 [.int .i64 a] (.bool false) := by
  refine VPure.of v_cmp_isNaN_int64_ok (Nat.le_of_ble_eq_true rfl) (fun Z st => ?_)
  simp only [v_cmp_isNaN_int64, ↓vD, vU, ↓vMd, vMu, vZ, seval, k_app, k_slc1]
  (repeat' (first | (simp (maxDischargeDepth := 16) only [*, vX, ↓vD, vU, ↓vMd, vMu, vZ, seval]) | (simp (disch := first | assumption | omega | rfl | exact fun _ => rfl) only [vP]) | ((with_reducible first | apply gsnd | apply csnd | apply gsd | apply csd | apply gsn | apply csn | apply gs | apply cs_) <;> intro _)))
theorem Compare_v (a b : Int) : VPure Try.prog 40 [.int .i64 a, .int .i64 b] (.int .i64 (cmpI a b)) := by
  have h1 := isNaN_v a
  have h2 := isNaN_v b
  refine VPure.of v_cmp_Compare_int64_ok (Nat.le_of_ble_eq_true rfl) (fun Z st => ?_)
  simp only [v_cmp_Compare_int64, ↓vD, vU, ↓vMd, vMu, vZ, seval, k_app, k_slc1]
  unfold cmpI
  by_cases c1 : a < b
  · (repeat' (first | (simp (maxDischargeDepth := 16) only [*, vX, ↓vD, vU, ↓vMd, vMu, vZ, seval]) | (simp (disch := first | assumption | omega | rfl | exact fun _ => rfl) only [vP]) | ((with_reducible first | apply gsnd | apply csnd | apply gsd | apply csd | apply gsn | apply csn | apply gs | apply cs_) <;> intro _) | (with_reducible first | refine callH_use (h1) ?_ | refine pureQ_use (h1) ?_) | (with_reducible first | refine callH_use (h2) ?_ | refine pureQ_use (h2) ?_)))
  · by_cases c2 : b < a
    · (repeat' (first | (simp (maxDischargeDepth := 16) only [*, vX, ↓vD, vU, ↓vMd, vMu, vZ, seval]) | (simp (disch := first | assumption | omega | rfl | exact fun _ => rfl) only [vP]) | ((with_reducible first | apply gsnd | apply csnd | apply gsd | apply csd | apply gsn | apply csn | apply gs | apply cs_) <;> intro _) | (with_reducible first | refine callH_use (h1) ?_ | refine pureQ_use (h1) ?_) | (with_reducible first | refine callH_use (h2) ?_ | refine pureQ_use (h2) ?_)))
    · (repeat' (first | (simp (maxDischargeDepth := 16) only [*, vX, ↓vD, vU, ↓vMd, vMu, vZ, seval]) | (simp (disch := first | assumption | omega | rfl | exact fun _ => rfl) only [vP]) | ((with_reducible first | apply gsnd | apply csnd | apply gsd | apply csd | apply gsn | apply csn | apply gs | apply cs_) <;> intro _) | (with_reducible first | refine callH_use (h1) ?_ | refine pureQ_use (h1) ?_) | (with_reducible first | refine callH_use (h2) ?_ | refine pureQ_use (h2) ?_)))
def ofA (load : List Seg) (tk : Tok) (bm : Nat) (n : Int) : AV := .clo 67 [] [.iptr (.agg [.sl (load.map Seg.a) tk, .mp bm]) 0, .iptr (.int .i64 n) 0]
theorem of_c (load : List Seg) (hl : load.length ≤ 1000000) (hm : mayF load = true) (hs : ∀ x ∈ load, small 17592186044416 x.v) (n : Int) (hn : 0 ≤ n ∧ n ≤ 65536) (tk : Tok) {bm : Nat} {m : Nat → Option (Array MapEntry → Nat → Prop)} (hb : ∀ st : St, mOf st = m → st.objs bm = some (memo (Value.int .i64) .i64 (costP load n))) (t : Int) (ht : -2199023255552 ≤ t ∧ t ≤ 2199023255552) :
    VPureM Try.prog 67 [.int .i64 t, .iptr (.agg [.sl (load.map Seg.a) tk, .mp bm]) 0, .iptr (.int .i64 n) 0] (.int .i64 (costP load n t)) m := fun Z st hmo => by
  have h := price_at_c (Z := Z) load hl hm hs n hn t ht tk (hb st hmo)
  obtain ⟨c, hc⟩ : ∃ c, costP load n t = c := ⟨_, rfl⟩
  rw [hc] at h ⊢
  unfold num at h
  clear hb hc hm hs hn
  refine VCalls.of v_cost_begins_1_ok (Nat.le_of_ble_eq_true rfl) ?_
  simp only [v_cost_begins_1, ↓vD, vU, ↓vMd, vMu, vZ, seval, k_app, k_slc1]
  (repeat' (first | (simp (maxDischargeDepth := 16) only [*, vX, ↓vD, vU, ↓vMd, vMu, vZ, seval]) | (simp (disch := first | assumption | omega | rfl | exact fun _ => rfl) only [vP]) | ((with_reducible first | apply gsnd | apply csnd | apply gsd | apply csd | apply gsn | apply csn | apply gs | apply cs_) <;> intro _)))
  refine callH_then h ?_
  rintro _ _ ⟨rfl, rfl⟩
  clear h
  (repeat' (first | (simp (maxDischargeDepth := 16) only [*, vX, ↓vD, vU, ↓vMd, vMu, vZ, seval]) | (simp (disch := first | assumption | omega | rfl | exact fun _ => rfl) only [vP]) | ((with_reducible first | apply gsnd | apply csnd | apply gsd | apply csd | apply gsn | apply csn | apply gs | apply cs_) <;> intro _)))
theorem Wk.freezeA (st : St) {sz b n c : Nat} (hp : 0 < sz) {xs rest : List AV} (hob : st.objs b = some (.cells (xs.flatMap AV.cells ++ rest))) (hn : n = xs.length) (hk : ∀ x ∈ xs, okEl sz x = true) (l : List AV) : Wk st (.osl b n c :: l) (st.del b) (.sl xs .no :: l) := fun B I W vs hr ha =>
  match vs, ha with
  | v :: vs, ha => by
    obtain ⟨J, q1, q2, q3⟩ := rel_freeze hr hp ha.1 hob hn hk
    exact ⟨J, q1, q2, q3, RepL.mono q1 _ _ ha.2⟩
  | [], ha => ha.elim
def begE (load f : List Seg) (w : Vec) (l : List Leg) : Int :=
  if mayF load then (if (beginsF f w l).2 ≠ 0 then (beginsF f w l).2 else if load.any muchS then 10 else if (beginsF f w l).1 = [] then 210 else 0) else 5
theorem begins_raw {Z : Im} {st : St} (load : List Seg) (hl : load.length ≤ 1000000) (f : List Seg) (hf : f.length ≤ 1000000) (w : Vec) (h1 : -9223372036854775808 ≤ w.m) (h2 : w.c ≤ 9223372036854775807) (l : List Leg) (hn : l.length ≤ 1000000000) (tk tk' tk2 : Tok) :
    VCalls Try.prog Z 37 [.sl (load.map Seg.a) tk, .sl (f.map Seg.a) tk', .agg [.int .i64 w.m, .int .i64 w.c], .sl (l.map Leg.a) tk2] st (fun r s =>
      (Hid (begE load f w l ≠ 0) ∧ r = .tup [.sl [] .full, .nilf, num (begE load f w l)] ∧ s = st) ∨
      (Hid (begE load f w l = 0) ∧ ∃ b c rest bm bn bp, (¬ b = bm ∧ ¬ bm = b ∧ ¬ b = bn ∧ ¬ bn = b ∧ ¬ b = bp ∧ ¬ bp = b ∧ ¬ bm = bn ∧ ¬ bn = bm ∧ ¬ bm = bp ∧ ¬ bp = bm ∧ ¬ bn = bp ∧ ¬ bp = bn) ∧ (st.objs b = none ∧ st.objs bm = none ∧ st.objs bn = none ∧ st.objs bp = none) ∧ Hid ((allT (beginsF f w l).1).length ≤ c ∧ rest.length = c - (allT (beginsF f w l).1).length) ∧ r = .tup [.osl b (allT (beginsF f w l).1).length c, .clo 67 [] [.ptr bp 0, .ptr bn 0], num 0] ∧
        s = (((ob st b num rest (allT (beginsF f w l).1)).ins bn (.cells [.int .i64 (lengthF l).1])).ins bm (.raw (.map #[] 0))).ins bp (.cells [.sl (load.map Seg.a) tk, .mp bm]))) := by
  have hm := May_F load (by omega) tk
  have hL := Length_v l hn tk2
  have hu := much_v load (by omega) tk
  have hB := Begins_c f hf w h1 h2 l hn tk' tk2
  have hT := times_c (beginsF f w l).1 .no
  obtain ⟨bd1, bd2⟩ := beginsF_len f w l
  have bd3 := begins_bd f w l
  have hI := times_it (beginsF f w l).1 (by omega) (fun x hx => ⟨by have := bd3 x hx; omega, (bd2 x hx).2⟩) .no
  have hlen : (allT (beginsF f w l).1).length ≤ 1000000 := by
    by_cases h : (checkF f w l).2 = 0
    · have hO := check_ok.1 h
      have hr := (begins_is hO).1
      have := allT_len hr (by have := hO.win; omega)
      have := hO.span
      omega
    · have : (beginsF f w l).1 = [] := by unfold beginsF; rw [if_pos (.inl h)]
      rw [this]; simp [allT]
  have HC : ∀ st, Hid (VCalls Try.prog Z 65 [.clo 91 [] [.iptr (.sl ((beginsF f w l).1.map Vec.a) .no) 0]] st (fun r s => (allT (beginsF f w l).1 = [] ∧ r = .sl [] .full ∧ s = st) ∨ ∃ b c rest, allT (beginsF f w l).1 ≠ [] ∧ st.objs b = none ∧ ((allT (beginsF f w l).1).length ≤ c ∧ rest.length = c - (allT (beginsF f w l).1).length) ∧ r = .osl b (allT (beginsF f w l).1).length c ∧ s = ob st b num rest (allT (beginsF f w l).1))) := fun st => ⟨Collect_c _ hlen hI⟩
  have HN : Hid (¬ (beginsF f w l).1.length = 0 → allT (beginsF f w l).1 ≠ []) := ⟨fun hne e => by
    cases hb : (beginsF f w l).1 with
    | nil => rw [hb] at hne; exact hne rfl
    | cons y r =>
      by_cases h : (checkF f w l).2 = 0
      · have hr := (begins_is (check_ok.1 h)).1
        rw [hb] at hr
        have : y.m ∈ allT (beginsF f w l).1 := by
          rw [hb, allT_cons, List.mem_append, mem_ticks]; left; exact ⟨by omega, hr.2.1⟩
        rw [e] at this; simp at this
      · have : (beginsF f w l).1 = [] := by unfold beginsF; rw [if_pos (.inl h)]
        rw [hb] at this; cases this⟩
  clear hI bd1 bd2 bd3
  obtain ⟨E, hE⟩ : ∃ E, begE load f w l = E := ⟨_, rfl⟩
  have HE : Hid (E = if mayF load then (if (beginsF f w l).2 ≠ 0 then (beginsF f w l).2 else if load.any muchS then 10 else if (beginsF f w l).1.length = 0 then 210 else 0) else 5) := ⟨by rw [← hE, begE]; simp only [List.length_eq_zero_iff]⟩
  obtain ⟨n, e'⟩ : ∃ n, (lengthF l).1 = n := ⟨_, rfl⟩
  obtain ⟨e, e''⟩ : ∃ e, (lengthF l).2 = e := ⟨_, rfl⟩
  obtain ⟨R, hR⟩ : ∃ R, (beginsF f w l).1 = R := ⟨_, rfl⟩
  obtain ⟨x, hx⟩ : ∃ x, (beginsF f w l).2 = x := ⟨_, rfl⟩
  obtain ⟨m, hm'⟩ : ∃ m, mayF load = m := ⟨_, rfl⟩
  obtain ⟨u, hu'⟩ : ∃ u, load.any muchS = u := ⟨_, rfl⟩
  simp only [hR, hx, hm', hu', e', e'', num, hE] at hL hB hT HC HN hm hu hlen HE ⊢
  clear hR hx hm' hu' e' e'' hE
  obtain ⟨A, hA⟩ : ∃ A, allT R = A := ⟨_, rfl⟩
  simp only [hA] at HC HN hlen ⊢
  clear hA
  refine VCalls.of v_cost_begins_ok (Nat.le_of_ble_eq_true rfl) ?_
  simp only [v_cost_begins, ↓vD, vU, ↓vMd, vMu, vZ, seval, k_app, k_slc1]
  cases m
  · obtain rfl : E = 5 := by rw [HE.out]; rfl
    (repeat' (first | (simp (maxDischargeDepth := 16) only [*, vX, ↓vD, vU, ↓vMd, vMu, vZ, seval]) | (simp (disch := first | assumption | omega | rfl | exact fun _ => rfl) only [vP]) | ((with_reducible first | apply gsnd | apply csnd | apply gsd | apply csd | apply gsn | apply csn | apply gs | apply cs_) <;> intro _) | (with_reducible refine objQ_i (fun _ _ => ?_); repeat with_reducible refine imp_i (fun _ => ?_)) | (with_reducible first | refine callH_use (hm) ?_ | refine pureQ_use (hm) ?_)))
    exact ⟨st, by (refine ⟨fun i o e => ?_, fun _ h => h⟩; revert e; simp only [St.ins, St.del, add_objs, kill_objs]; (repeat' split); all_goals (first | exact id | (intros; contradiction) | (intros; subst_vars; contradiction) | (intros; simp_all; done) | (intros; subst_vars; simp_all; done))), .inl ⟨⟨by decide⟩, rfl⟩⟩
  by_cases h0 : x = 0
  · subst h0
    cases u
    · by_cases hR : R.length = 0
      · obtain rfl : E = 210 := by rw [HE.out, hR]; rfl
        (repeat' (first | (simp (maxDischargeDepth := 16) only [*, vX, ↓vD, vU, ↓vMd, vMu, vZ, seval]) | (simp (disch := first | assumption | omega | rfl | exact fun _ => rfl) only [vP]) | ((with_reducible first | apply gsnd | apply csnd | apply gsd | apply csd | apply gsn | apply csn | apply gs | apply cs_) <;> intro _) | (with_reducible refine objQ_i (fun _ _ => ?_); repeat with_reducible refine imp_i (fun _ => ?_)) | (with_reducible first | refine callH_use (hm) ?_ | refine pureQ_use (hm) ?_) | (with_reducible first | refine callH_use (hB) ?_ | refine pureQ_use (hB) ?_) | (with_reducible first | refine callH_use (hu) ?_ | refine pureQ_use (hu) ?_)))
        exact ⟨st, by (refine ⟨fun i o e => ?_, fun _ h => h⟩; revert e; simp only [St.ins, St.del, add_objs, kill_objs]; (repeat' split); all_goals (first | exact id | (intros; contradiction) | (intros; subst_vars; contradiction) | (intros; simp_all; done) | (intros; subst_vars; simp_all; done))), .inl ⟨⟨by decide⟩, rfl⟩⟩
      · obtain rfl : E = 0 := by rw [HE.out, if_neg hR]; rfl
        have HA := Hid.mk (HN.out hR)
        clear HE HN
        (repeat' (first | (simp (maxDischargeDepth := 16) only [*, vX, ↓vD, vU, ↓vMd, vMu, vZ, seval]) | (simp (disch := first | assumption | omega | rfl | exact fun _ => rfl) only [vP]) | ((with_reducible first | apply gsnd | apply csnd | apply gsd | apply csd | apply gsn | apply csn | apply gs | apply cs_) <;> intro _) | (with_reducible refine objQ_i (fun _ _ => ?_); repeat with_reducible refine imp_i (fun _ => ?_)) | (with_reducible first | refine callH_use (hm) ?_ | refine pureQ_use (hm) ?_) | (with_reducible first | refine callH_use (hB) ?_ | refine pureQ_use (hB) ?_) | (with_reducible first | refine callH_use (hu) ?_ | refine pureQ_use (hu) ?_) | (with_reducible first | refine callH_use (hL) ?_ | refine pureQ_use (hL) ?_) | (with_reducible first | refine callH_use (hT) ?_ | refine pureQ_use (hT) ?_)))
        (rename_i b6 hb6 bn hbn n_bn_b6 n_b6_bn bm hbm n_bm_b6 n_b6_bm n_bm_bn n_bn_bm bp hbp n_bp_b6 n_b6_bp n_bp_bn n_bn_bp n_bp_bm n_bm_bp)
        refine callH_then (HC _).out ?_
        rintro _ _ (⟨h, _, _⟩ | ⟨b, c, rest, h3, h4, h5, rfl, rfl⟩)
        · exact absurd h HA.out
        · simp only [ins_objs, ite_some_none] at h4
          obtain ⟨m1, m2, m3, m4, m5, m6, m7, m8, h4⟩ := h4
          have H5 := Hid.mk h5
          clear h5 h3 HC HA
          (repeat' (first | (simp (maxDischargeDepth := 16) only [*, vX, ↓vD, vU, ↓vMd, vMu, vZ, seval]) | (simp (disch := first | assumption | omega | rfl | exact fun _ => rfl) only [vP]) | ((with_reducible first | apply gsnd | apply csnd | apply gsd | apply csd | apply gsn | apply csn | apply gs | apply cs_) <;> intro _) | (with_reducible refine objQ_i (fun _ _ => ?_); repeat with_reducible refine imp_i (fun _ => ?_))))
          refine ⟨_, ?_, .inr ⟨⟨trivial⟩, b, c, rest, bm, bn, bp, ⟨m3, m4, m5, m6, m1, m2, n_bm_bn, n_bn_bm, n_bm_bp, n_bp_bm, n_bn_bp, n_bp_bn⟩, ⟨h4, hbm, hbn, hbp⟩, H5, rfl, rfl⟩⟩
          unfold ob
          (refine leX.start ?_ rfl; (repeat (refine leX.in_ (by simp only [*, ins_objs, if_true, if_false]; first | done | rfl) ?_)); (repeat (first | refine leX.new (by first | assumption | (rw [hob]; assumption)) ?_ | refine leX.old (by (simp only [List.mem_cons, true_or, or_true, eq_self]; done)) ?_)); exact leX.refl _ _)
    · obtain rfl : E = 10 := by rw [HE.out]; rfl
      (repeat' (first | (simp (maxDischargeDepth := 16) only [*, vX, ↓vD, vU, ↓vMd, vMu, vZ, seval]) | (simp (disch := first | assumption | omega | rfl | exact fun _ => rfl) only [vP]) | ((with_reducible first | apply gsnd | apply csnd | apply gsd | apply csd | apply gsn | apply csn | apply gs | apply cs_) <;> intro _) | (with_reducible refine objQ_i (fun _ _ => ?_); repeat with_reducible refine imp_i (fun _ => ?_)) | (with_reducible first | refine callH_use (hm) ?_ | refine pureQ_use (hm) ?_) | (with_reducible first | refine callH_use (hB) ?_ | refine pureQ_use (hB) ?_) | (with_reducible first | refine callH_use (hu) ?_ | refine pureQ_use (hu) ?_)))
      exact ⟨st, by (refine ⟨fun i o e => ?_, fun _ h => h⟩; revert e; simp only [St.ins, St.del, add_objs, kill_objs]; (repeat' split); all_goals (first | exact id | (intros; contradiction) | (intros; subst_vars; contradiction) | (intros; simp_all; done) | (intros; subst_vars; simp_all; done))), .inl ⟨⟨by decide⟩, rfl⟩⟩
  · obtain rfl : E = x := by rw [HE.out, if_pos rfl, if_pos h0]
    (repeat' (first | (simp (maxDischargeDepth := 16) only [*, vX, ↓vD, vU, ↓vMd, vMu, vZ, seval]) | (simp (disch := first | assumption | omega | rfl | exact fun _ => rfl) only [vP]) | ((with_reducible first | apply gsnd | apply csnd | apply gsd | apply csd | apply gsn | apply csn | apply gs | apply cs_) <;> intro _) | (with_reducible refine objQ_i (fun _ _ => ?_); repeat with_reducible refine imp_i (fun _ => ?_)) | (with_reducible first | refine callH_use (hm) ?_ | refine pureQ_use (hm) ?_) | (with_reducible first | refine callH_use (hB) ?_ | refine pureQ_use (hB) ?_)))
    exact ⟨st, by (refine ⟨fun i o e => ?_, fun _ h => h⟩; revert e; simp only [St.ins, St.del, add_objs, kill_objs]; (repeat' split); all_goals (first | exact id | (intros; contradiction) | (intros; subst_vars; contradiction) | (intros; simp_all; done) | (intros; subst_vars; simp_all; done))), .inl ⟨⟨trivial⟩, rfl⟩⟩
theorem begins_c {Z : Im} {st : St} (load : List Seg) (hl : load.length ≤ 1000000) (f : List Seg) (hf : f.length ≤ 1000000) (w : Vec) (h1 : -9223372036854775808 ≤ w.m) (h2 : w.c ≤ 9223372036854775807) (l : List Leg) (hn : l.length ≤ 1000000000) (tk tk' tk2 : Tok) :
    VCalls Try.prog Z 37 [.sl (load.map Seg.a) tk, .sl (f.map Seg.a) tk', .agg [.int .i64 w.m, .int .i64 w.c], .sl (l.map Leg.a) tk2] st (fun r s =>
      (Hid (begE load f w l ≠ 0) ∧ r = .tup [.sl [] .full, .nilf, num (begE load f w l)] ∧ s = st) ∨
      (Hid (begE load f w l = 0) ∧ ∃ b c rest bm, (¬ b = bm ∧ ¬ bm = b) ∧ (st.objs b = none ∧ st.objs bm = none) ∧ Hid ((allT (beginsF f w l).1).length ≤ c ∧ rest.length = c - (allT (beginsF f w l).1).length) ∧ r = .tup [.osl b (allT (beginsF f w l).1).length c, ofA load tk bm (lengthF l).1, num 0] ∧
        s = (st.ins bm (memo (Value.int .i64) .i64 (costP load (lengthF l).1))).ins b (.cells (fl num (allT (beginsF f w l).1) ++ rest)))) := by
  refine ((begins_raw load hl f hf w h1 h2 l hn tk tk' tk2).wk (K' := fun r s =>
      (Hid (begE load f w l ≠ 0) ∧ r = .tup [.sl [] .full, .nilf, num (begE load f w l)] ∧ s = st) ∨
      (Hid (begE load f w l = 0) ∧ ∃ b c rest bm bn bp, (¬ b = bm ∧ ¬ bm = b ∧ ¬ b = bn ∧ ¬ bn = b ∧ ¬ b = bp ∧ ¬ bp = b ∧ ¬ bm = bn ∧ ¬ bn = bm ∧ ¬ bm = bp ∧ ¬ bp = bm ∧ ¬ bn = bp ∧ ¬ bp = bn) ∧ (st.objs b = none ∧ st.objs bm = none ∧ st.objs bn = none ∧ st.objs bp = none) ∧ Hid ((allT (beginsF f w l).1).length ≤ c ∧ rest.length = c - (allT (beginsF f w l).1).length) ∧ r = .tup [.osl b (allT (beginsF f w l).1).length c, .clo 67 [] [.ptr bp 0, .ptr bn 0], num 0] ∧
        s = ((((ob st b num rest (allT (beginsF f w l).1)).ins bn (.cells [.int .i64 (lengthF l).1])).ins bm (.raw (.map #[] 0))).ins bp (.cells [.sl (load.map Seg.a) tk, .mp bm])).ins bm (memo (Value.int .i64) .i64 (costP load (lengthF l).1)))) ?_).wk ?_
  · rintro v s (⟨a1, rfl, rfl⟩ | ⟨a1, b, c, rest, bm, bn, bp, nn, oo, a2, rfl, rfl⟩)
    · exact ⟨_, _, Wk.le (St.le.refl _) _, .inl ⟨a1, rfl, rfl⟩⟩
    · obtain ⟨n1, n2, n3, n4, n5, n6, n7, n8, n9, n10, n11, n12⟩ := nn
      exact ⟨_, _, Wk.toMemo (Value.int .i64) .i64 (costP load (lengthF l).1) _ (by simp only [ob, St.ins, *, if_true, if_false]) _, .inr ⟨a1, b, c, rest, bm, bn, bp, ⟨n1, n2, n3, n4, n5, n6, n7, n8, n9, n10, n11, n12⟩, oo, a2, rfl, rfl⟩⟩
  · rintro v s (⟨a1, rfl, rfl⟩ | ⟨a1, b, c, rest, bm, bn, bp, nn, ⟨o1, o2, o3, o4⟩, a2, rfl, rfl⟩)
    · exact ⟨_, _, Wk.le (St.le.refl _) _, .inl ⟨a1, rfl, rfl⟩⟩
    · obtain ⟨n1, n2, n3, n4, n5, n6, n7, n8, n9, n10, n11, n12⟩ := nn
      obtain ⟨A, hA⟩ : ∃ A, allT (beginsF f w l).1 = A := ⟨_, rfl⟩
      obtain ⟨n, hN⟩ : ∃ A, (lengthF l).1 = A := ⟨_, rfl⟩
      rw [hA] at a2 ⊢
      rw [hN]
      clear hA hN
      unfold ob
      (refine ⟨_, (st.ins bm (memo (Value.int .i64) .i64 (costP load n))).ins b (.cells (fl num A ++ rest)), (Wk.fz _ (b := bp) (x := .agg [.sl (load.map Seg.a) tk, .mp bm]) (by first | (simp only [St.ins, St.del, *, if_true, if_false, eq_self, not_false_eq_true, ite_true, ite_false]; first | done | rfl) | (simp [St.ins, St.del, *]; done) | (simp [St.ins, St.del, *]; rfl)) (by first | rfl | simp [okEl, AV.cells, AV.isCell]) (by first | exact Nat.zero_lt_succ _ | simp [AV.cells]) _).trans ((Wk.fz _ (b := bn) (x := .int .i64 n) (by first | (simp only [St.ins, St.del, *, if_true, if_false, eq_self, not_false_eq_true, ite_true, ite_false]; first | done | rfl) | (simp [St.ins, St.del, *]; done) | (simp [St.ins, St.del, *]; rfl)) (by first | rfl | simp [okEl, AV.cells, AV.isCell]) (by first | exact Nat.zero_lt_succ _ | simp [AV.cells]) _).trans (Wk.le (by (refine ⟨fun i o e => ?_, fun _ h => h⟩; revert e; simp only [St.ins, St.del, add_objs, kill_objs]; (repeat' split); all_goals (first | exact id | (intros; contradiction) | (intros; subst_vars; contradiction) | (intros; simp_all; done) | (intros; subst_vars; simp_all; done)))) _)), ?_⟩; simp only [AV.sub, AV.subL, *, if_true, if_false, eq_self, ite_true, ite_false])
      exact .inr ⟨trivial, b, c, rest, bm, ⟨n1, n2⟩, ⟨o1, o2⟩, a2, rfl, rfl⟩
end Go.Proofs.Ytglekfgoadehbaa.V
end
section
set_option linter.unusedSimpArgs false
set_option linter.unusedVariables false
/- slices.SortStableFunc and what it calls, at int64. -/
namespace Go.Proofs.Ytglekfgoadehbaa.V.SoI64
open Go Go.Proofs Go.Proofs.Ytglekfgoadehbaa.SP
set_option maxRecDepth 100000
variable {α : Type} [Inhabited α] {Z : Im}
theorem ld (f : α → AV) (hok : ∀ x, okEl 1 (f x) = true) (hag : ∀ x, (f x).cells = [f x]) : ∀ (st : St) (b : Nat) (rest : List AV) (xs : List α) (i : Nat), i < xs.length → vload (ob st b f rest xs) (.ptr b (i * 1)) 1 false = some (f (xs.getD i default)) :=
  fun st b rest xs i h => ob_load1 st b f rest xs i  hok hag h
theorem sto (f : α → AV) (hok : ∀ x, okEl 1 (f x) = true) : ∀ (st : St) (b : Nat) (rest : List AV) (xs : List α) (i : Nat) (y : α) (K : AV → St → Prop) (t : Tag K), i < xs.length → storeK (.ptr b (i * 1)) (f y) 1 (ob st b f rest xs) K t = K .no (ob st b f rest (xs.set i y)) :=
  fun st b rest xs i y K t h => ob_store st b f rest xs i 1 y K t (by omega) hok h
theorem swapRange (f : α → AV) (hok : ∀ x, okEl 1 (f x) = true) (hag : ∀ x, (f x).cells = [f x]) (st : St) (bb L c : Nat) (rest : List AV) (cl : AV) (A U B V C : List α) (a b : Nat) (ha : a = A.length) (hb : b = A.length + U.length + B.length) (hn : V.length = U.length)
    (hL : L = (A ++ (U ++ (B ++ (V ++ C)))).length) (hm : L ≤ 1000000000) :
    VCalls Try.prog Z 125 [.osl bb L c, .int .i64 a, .int .i64 b, .int .i64 U.length, cl] (ob st bb f rest (A ++ (U ++ (B ++ (V ++ C)))))
      (fun r s => r = .tup [] ∧ s = ob st bb f rest (A ++ (V ++ (B ++ (U ++ C))))) := by
  have hlen : A.length + (U.length + (B.length + (V.length + C.length))) = L := by rw [hL]; simp
  refine VCalls.of v_slices_swapRangeCmpFunc_int64_ok (Nat.le_of_ble_eq_true rfl) ?_
  simp only [v_slices_swapRangeCmpFunc_int64, ↓vD, vU, ↓vMd, vMu, vZ, seval, k_app, k_slc1]
  refine loopf_of (by simp only [asgL, dsts, List.cons_append, List.nil_append, List.append_nil]; rfl) (by simp only [noR, Bool.and_true, Bool.and_false]; rfl) (len := U.length) (by omega) (fun k fr s => s = ob st bb f rest (A ++ (V.take k ++ (U.drop k ++ (B ++ (U.take k ++ (V.drop k ++ C)))))) ∧ fr.t 10 = .int .i64 k) ?_ ?_ ?_
  · simp [↓vD, vU, ↓vMd, vMu, vZ, seval, k_app, k_slc1]
  · rintro k fr s hk hw hf hd ⟨rfl, h10⟩
    obtain ⟨p, hp⟩ : ∃ p, p = a + k := ⟨_, rfl⟩
    obtain ⟨q, hq⟩ : ∃ q, q = b + k := ⟨_, rfl⟩
    have w1 : IntKind.i64.wrap ((a : Int) + k) = (p : Int) := by rw [wrap_i64 _ (by omega) (by omega)]; omega
    have w2 : IntKind.i64.wrap ((b : Int) + k) = (q : Int) := by rw [wrap_i64 _ (by omega) (by omega)]; omega
    have hpL : p < L := by omega
    have hqL : q < L := by omega
    obtain ⟨ys, hys⟩ : ∃ ys, ys = A ++ (V.take k ++ (U.drop k ++ (B ++ (U.take k ++ (V.drop k ++ C))))) := ⟨_, rfl⟩
    have hyl : ys.length = L := by rw [hys]; simp; omega
    have hpy : p < ys.length := by omega
    have hqy : q < ys.length := by omega
    have hqs : q < (ys.set p (ys.getD q default)).length := by simp; omega
    have hsw : swp ys p q = A ++ (V.take (k + 1) ++ (U.drop (k + 1) ++ (B ++ (U.take (k + 1) ++ (V.drop (k + 1) ++ C))))) := by
      have hiV : k < V.length := by omega
      rw [hys, List.drop_eq_getElem_cons hk, List.drop_eq_getElem_cons hiV, List.take_succ_eq_append_getElem hiV, List.take_succ_eq_append_getElem hk]
      have h1 := swp_app (A ++ V.take k) (U.drop (k + 1) ++ (B ++ U.take k)) (V.drop (k + 1) ++ C) U[k] V[k]
      have ea : (A ++ V.take k).length = p := by simp; omega
      have eb : (A ++ V.take k).length + 1 + (U.drop (k + 1) ++ (B ++ U.take k)).length = q := by simp; omega
      rw [ea] at h1
      rw [ea] at eb
      rw [eb] at h1
      simp only [List.append_assoc, List.cons_append, List.nil_append] at h1 ⊢
      exact h1
    unfold swp at hsw
    rw [← hys, ← hsw]
    clear hys hsw hlen hL hp hq ha hb
    have hld := ld f hok hag
    have hst := sto f hok
    (repeat' (first | (simp (maxDischargeDepth := 16) only [*, ob_iad, ↓vD, vU, ↓vMd, vMu, vZ, seval, k_app, k_slc1]) | (with_reducible refine gs (fun _ => ?_) (fun _ => ?_)) | (with_reducible refine cs_ (fun _ => ?_) (fun _ => ?_)) | (with_reducible refine appK_a ?_)))
  · rintro fr s hf hd ⟨rfl, h10⟩
    have e2 : List.take U.length V = V := List.take_of_length_le (by omega)
    have e3 : List.drop U.length V = [] := List.drop_of_length_le (by omega)
    (repeat' (first | (simp (maxDischargeDepth := 16) only [*, List.take_length, List.drop_length, ↓vD, vU, ↓vMd, vMu, vZ, seval, k_app, k_slc1]) | (with_reducible refine gs (fun _ => ?_) (fun _ => ?_)) | (with_reducible refine cs_ (fun _ => ?_) (fun _ => ?_)) | (with_reducible refine appK_a ?_)))
theorem rotate (f : α → AV) (hok : ∀ x, okEl 1 (f x) = true) (hag : ∀ x, (f x).cells = [f x]) (st : St) (bb L c : Nat) (rest : List AV) (cl : AV) (A U V C : List α) (a m b : Nat) (ha : A.length = a) (hm0 : A.length + U.length = m) (hb : A.length + U.length + V.length = b) (hU : 0 < U.length) (hV : 0 < V.length)
    (hL : (A ++ (U ++ (V ++ C))).length = L) (hm : L ≤ 1000000000) :
    VCalls Try.prog Z 115 [.osl bb L c, .int .i64 a, .int .i64 m, .int .i64 b, cl] (ob st bb f rest (A ++ (U ++ (V ++ C))))
      (fun r s => r = .tup [] ∧ s = ob st bb f rest (A ++ (V ++ (U ++ C)))) := by
  have hlen : A.length + (U.length + (V.length + C.length)) = L := by rw [← hL]; simp
  have w1 : IntKind.i64.wrap ((m : Int) - a) = (U.length : Int) := by rw [wrap_i64 _ (by omega) (by omega)]; omega
  have w2 : IntKind.i64.wrap ((b : Int) - m) = (V.length : Int) := by rw [wrap_i64 _ (by omega) (by omega)]; omega
  refine VCalls.of v_slices_rotateCmpFunc_int64_ok (Nat.le_of_ble_eq_true rfl) ?_
  simp only [v_slices_rotateCmpFunc_int64, ↓vD, vU, ↓vMd, vMu, vZ, seval, k_app, k_slc1]
  (repeat' (first | (simp (maxDischargeDepth := 16) only [*, ↓vD, vU, ↓vMd, vMu, vZ, seval, k_app, k_slc1]) | (with_reducible refine gs (fun _ => ?_) (fun _ => ?_)) | (with_reducible refine cs_ (fun _ => ?_) (fun _ => ?_)) | (with_reducible refine appK_a ?_)))
  refine loopm_of (by simp only [asgL, dsts, List.cons_append, List.nil_append, List.append_nil]; rfl) (by simp only [noR, Bool.and_true, Bool.and_false]; rfl) (fun fr s => ∃ A1 U1 V1 C1 : List α, s = ob st bb f rest (A1 ++ (U1 ++ (V1 ++ C1))) ∧ fr.t 10 = .int .i64 U1.length ∧ fr.t 11 = .int .i64 V1.length ∧ 0 < U1.length ∧ 0 < V1.length ∧ A1.length + U1.length = m ∧ A1.length + (U1.length + (V1.length + C1.length)) = L ∧ A1 ++ (V1 ++ (U1 ++ C1)) = A ++ (V ++ (U ++ C)))
    (fun fr _ => (match fr.t 10 with | .int _ n => n.toNat | _ => 0) + (match fr.t 11 with | .int _ n => n.toNat | _ => 0)) ?_ ?_
  · exact ⟨A, U, V, C, rfl, by simp [↓vD, vU, ↓vMd, vMu, vZ, seval, k_app, k_slc1], by simp [↓vD, vU, ↓vMd, vMu, vZ, seval, k_app, k_slc1], hU, hV, hm0, hlen, rfl⟩
  · rintro fr s hf hd ⟨A1, U1, V1, C1, rfl, h10, h11, hU1, hV1, hm1, hl1, hT⟩
    obtain ⟨p, hp⟩ : ∃ p, A1.length = p := ⟨_, rfl⟩
    have w3 : IntKind.i64.wrap ((m : Int) - U1.length) = (p : Int) := by rw [wrap_i64 _ (by omega) (by omega)]; omega
    rw [← hT]
    clear hT w1 w2 hL hlen
    by_cases heq : U1.length = V1.length
    · have e1 : ((U1.length : Int) != (V1.length : Int)) = false := by simp [heq]
      have hsw := swapRange (Z := Z) f hok hag st bb L c rest cl A1 U1 [] V1 C1 p m hp.symm (by simp; omega) heq.symm (by simp; omega) hm
      clear heq
      (repeat' (first | (simp (maxDischargeDepth := 16) only [*, ↓vD, vU, ↓vMd, vMu, vZ, seval, k_app, k_slc1]) | (with_reducible refine gs (fun _ => ?_) (fun _ => ?_)) | (with_reducible refine cs_ (fun _ => ?_) (fun _ => ?_)) | (with_reducible refine appK_a ?_)))
      refine callH_then hsw ?_
      rintro r s ⟨rfl, rfl⟩
      (repeat' (first | (simp (maxDischargeDepth := 16) only [*, ↓vD, vU, ↓vMd, vMu, vZ, seval, k_app, k_slc1]) | (with_reducible refine gs (fun _ => ?_) (fun _ => ?_)) | (with_reducible refine cs_ (fun _ => ?_) (fun _ => ?_)) | (with_reducible refine appK_a ?_)))
    · have e1 : ((U1.length : Int) != (V1.length : Int)) = true := by simp; omega
      by_cases hgt : V1.length < U1.length
      · have e2 : decide ((V1.length : Int) < U1.length) = true := by simp; omega
        have w4 : IntKind.i64.wrap ((U1.length : Int) - V1.length) = ((U1.drop V1.length).length : Int) := by rw [wrap_i64 _ (by omega) (by omega)]; simp; omega
        have h1 : (U1.take V1.length).length = V1.length := by simp; omega
        have hdec : A1 ++ (U1 ++ (V1 ++ C1)) = A1 ++ (U1.take V1.length ++ (U1.drop V1.length ++ (V1 ++ C1))) := by rw [← List.append_assoc (U1.take _), List.take_append_drop]
        rw [hdec]
        have hsw := swapRange (Z := Z) f hok hag st bb L c rest cl A1 (U1.take V1.length) (U1.drop V1.length) V1 C1 p m hp.symm (by simp; omega) h1.symm (by simp; omega) hm
        rw [h1] at hsw
        have hneg : ¬ U1.length = V1.length := heq
        clear hdec heq
        (repeat' (first | (simp (maxDischargeDepth := 16) only [*, ↓vD, vU, ↓vMd, vMu, vZ, seval, k_app, k_slc1]) | (with_reducible refine gs (fun _ => ?_) (fun _ => ?_)) | (with_reducible refine cs_ (fun _ => ?_) (fun _ => ?_)) | (with_reducible refine appK_a ?_)))
        refine callH_then hsw ?_
        rintro r s ⟨rfl, rfl⟩
        (repeat' (first | (simp (maxDischargeDepth := 16) only [*, ↓vD, vU, ↓vMd, vMu, vZ, seval, k_app, k_slc1]) | (with_reducible refine gs (fun _ => ?_) (fun _ => ?_)) | (with_reducible refine cs_ (fun _ => ?_) (fun _ => ?_)) | (with_reducible refine appK_a ?_)))
        refine ⟨_, St.le.refl _, ⟨A1 ++ V1, U1.drop V1.length, U1.take V1.length, C1, by simp, rfl, by rw [h1], by simp only [List.length_append, List.length_drop, List.length_take]; omega, by omega, by simp only [List.length_append, List.length_drop, List.length_take]; omega, by simp only [List.length_append, List.length_drop, List.length_take]; omega, ?_⟩, ?_⟩
        · rw [← List.append_assoc (U1.take _), List.take_append_drop, List.append_assoc]
        · simp only [Int.toNat_natCast, List.length_drop, List.length_take] at *; omega
      · have hlt : U1.length < V1.length := by omega
        have e2 : decide ((V1.length : Int) < U1.length) = false := by simp; omega
        have w4 : IntKind.i64.wrap ((V1.length : Int) - U1.length) = ((V1.take (V1.length - U1.length)).length : Int) := by rw [wrap_i64 _ (by omega) (by omega)]; simp; omega
        obtain ⟨d, hdd⟩ : ∃ d, V1.length - U1.length = d := ⟨_, rfl⟩
        rw [hdd] at w4
        obtain ⟨q, hq⟩ : ∃ q, m + d = q := ⟨_, rfl⟩
        have w5 : IntKind.i64.wrap ((m : Int) + V1.length) = ((m + V1.length : Nat) : Int) := by rw [wrap_i64 _ (by omega) (by omega)]; omega
        have w6 : IntKind.i64.wrap (((m : Int) + V1.length) - U1.length) = (q : Int) := by rw [wrap_i64 _ (by omega) (by omega)]; omega
        have h1 : (V1.drop d).length = U1.length := by simp; omega
        have hdec : A1 ++ (U1 ++ (V1 ++ C1)) = A1 ++ (U1 ++ (V1.take d ++ (V1.drop d ++ C1))) := by rw [← List.append_assoc (V1.take _), List.take_append_drop]
        rw [hdec]
        have hsw := swapRange (Z := Z) f hok hag st bb L c rest cl A1 U1 (V1.take d) (V1.drop d) C1 p q hp.symm (by simp; omega) h1 (by simp; omega) hm
        clear hdec heq
        (repeat' (first | (simp (maxDischargeDepth := 16) only [*, ↓vD, vU, ↓vMd, vMu, vZ, seval, k_app, k_slc1]) | (with_reducible refine gs (fun _ => ?_) (fun _ => ?_)) | (with_reducible refine cs_ (fun _ => ?_) (fun _ => ?_)) | (with_reducible refine appK_a ?_)))
        refine callH_then hsw ?_
        rintro r s ⟨rfl, rfl⟩
        (repeat' (first | (simp (maxDischargeDepth := 16) only [*, ↓vD, vU, ↓vMd, vMu, vZ, seval, k_app, k_slc1]) | (with_reducible refine gs (fun _ => ?_) (fun _ => ?_)) | (with_reducible refine cs_ (fun _ => ?_) (fun _ => ?_)) | (with_reducible refine appK_a ?_)))
        refine ⟨_, St.le.refl _, ⟨A1, V1.drop d, V1.take d, U1 ++ C1, by simp, by rw [h1], rfl, by omega, by simp only [List.length_append, List.length_drop, List.length_take]; omega, by omega, by simp only [List.length_append, List.length_drop, List.length_take]; omega, ?_⟩, ?_⟩
        · rw [← List.append_assoc (V1.take _), List.take_append_drop]
        · have hmn : min d V1.length = d := by omega
          simp only [Int.toNat_natCast, List.length_take, List.length_drop, hmn]; omega
theorem getD_mid (A B : List α) (x : α) (i : Nat) (h : A.length = i) : (A ++ x :: B).getD i default = x := by
  subst h; simp [List.getD_eq_getElem?_getD]
theorem insertion (f : α → AV) (hok : ∀ x, okEl 1 (f x) = true) (hag : ∀ x, (f x).cells = [f x]) {gf : Nat} {fs cs : List AV} (cf : α → α → Int) (o : SWO (ltB cf)) {Q : St → Prop} (hc : ∀ x y (Y : Im) (s : St), Q s → VCalls Try.prog Y gf (fs ++ [f x, f y] ++ cs) s (fun r s' => r = .int .i64 (cf x y) ∧ s' = s))
    (st : St) (bb L c : Nat) (hQst : ∀ (rest : List AV) (xs : List α), Q (ob st bb f rest xs)) (rest : List AV) (A M C : List α) (a b : Nat) (ha : A.length = a) (hb : A.length + M.length = b) (hL : (A ++ (M ++ C)).length = L) (hm : L ≤ 1000000000) :
    VCalls Try.prog Z 92 [.osl bb L c, .int .i64 a, .int .i64 b, .clo gf fs cs] (ob st bb f rest (A ++ (M ++ C)))
      (fun r s => r = .tup [] ∧ ∃ M', s = ob st bb f rest (A ++ (M' ++ C)) ∧ Srt (ltB cf) M' ∧ Stb (ltB cf) M M') := by
  have hlen : A.length + (M.length + C.length) = L := by rw [← hL]; simp
  have w1 : IntKind.i64.wrap ((a : Int) + 1) = ((a + 1 : Nat) : Int) := by rw [wrap_i64 _ (by omega) (by omega)]; omega
  refine VCalls.of v_slices_insertionSortCmpFunc_int64_ok (Nat.le_of_ble_eq_true rfl) ?_
  simp only [v_slices_insertionSortCmpFunc_int64, ↓vD, vU, ↓vMd, vMu, vZ, seval, k_app, k_slc1]
  (repeat' (first | (simp (maxDischargeDepth := 16) only [*, ↓vD, vU, ↓vMd, vMu, vZ, seval, k_app, k_slc1]) | (with_reducible refine gs (fun _ => ?_) (fun _ => ?_)) | (with_reducible refine cs_ (fun _ => ?_) (fun _ => ?_)) | (with_reducible refine appK_a ?_)))
  refine loopm_of (by simp only [asgL, dsts, List.cons_append, List.nil_append, List.append_nil]; rfl) (by simp only [noR, Bool.and_true, Bool.and_false]; rfl) (fun fr s => ∃ (i : Nat) (M1 : List α), s = ob st bb f rest (A ++ (M1 ++ (M.drop (i - a) ++ C))) ∧ fr.t 8 = .int .i64 i ∧ a < i ∧ i ≤ b + 1 ∧ (M1.length = i - a ∨ M.length = 0 ∧ M1 = []) ∧ Srt (ltB cf) M1 ∧ Stb (ltB cf) (M.take (i - a)) M1)
    (fun fr _ => b + 1 - (match fr.t 8 with | .int _ n => n.toNat | _ => 0)) ?_ ?_
  · refine ⟨a + 1, M.take 1, ?_, by simp [↓vD, vU, ↓vMd, vMu, vZ, seval, k_app, k_slc1], by omega, by omega, ?_, ?_, ?_⟩
    · rw [Nat.add_sub_cancel_left, ← List.append_assoc (M.take 1), List.take_append_drop]
    · rw [Nat.add_sub_cancel_left]
      cases M with
      | nil => right; simp
      | cons x M => left; simp
    · cases M with
      | nil => exact Srt.nil
      | cons x M => exact Srt.one x
    · rw [Nat.add_sub_cancel_left]; exact Stb.refl _
  · rintro fr s hf hd ⟨i, M1, rfl, h8, hai, hib, hml, hsr, hst⟩
    by_cases hlt : i < b
    · have hl : i - a < M.length := by omega
      have e1 : decide ((i : Int) < b) = true := by simp; omega
      obtain ⟨x, hx⟩ : ∃ x, M[i - a] = x := ⟨_, rfl⟩
      have hxd : M.drop (i - a) = x :: M.drop (i + 1 - a) := by rw [List.drop_eq_getElem_cons hl, hx, show i + 1 - a = i - a + 1 by omega]
      have htk : M.take (i + 1 - a) = M.take (i - a) ++ [x] := by rw [show i + 1 - a = i - a + 1 by omega, List.take_succ_eq_append_getElem hl, hx]
      have hml1 : M1.length = i - a := by omega
      obtain ⟨R, hR⟩ : ∃ R, R = M.drop (i + 1 - a) ++ C := ⟨_, rfl⟩
      have hst0 : A ++ (M1 ++ (M.drop (i - a) ++ C)) = A ++ (M1 ++ (x :: ([] ++ R))) := by rw [hxd, hR]; simp
      have hRl : R.length + (i + 1) = L := by rw [hR]; simp only [List.length_append, List.length_drop]; omega
      rw [hst0]
      have hdone : ∀ P1 P2 : List α, P1.length + P2.length = i - a → Srt (ltB cf) (P1 ++ x :: P2) ∧ Stb (ltB cf) (M.take (i - a) ++ [x]) (P1 ++ x :: P2) → ∃ (i1 : Nat) (M2 : List α),
          ob st bb f rest (A ++ (P1 ++ (x :: (P2 ++ R)))) = ob st bb f rest (A ++ (M2 ++ (M.drop (i1 - a) ++ C))) ∧ (i : Int) + 1 = (i1 : Int) ∧ a < i1 ∧ i1 ≤ b + 1 ∧ (M2.length = i1 - a ∨ M.length = 0 ∧ M2 = []) ∧ Srt (ltB cf) M2 ∧ Stb (ltB cf) (M.take (i1 - a)) M2 := fun P1 P2 hl h =>
        ⟨i + 1, P1 ++ x :: P2, by rw [hR]; simp, by omega, by omega, by omega, .inl (by simp only [List.length_append, List.length_cons]; omega), h.1, by rw [htk]; exact h.2⟩
      have H := Hid.mk (And.intro hml1 (And.intro hlen hdone))
      clear hst0 hxd htk hml hR hlen hx hL w1 hml1 hdone
      have w2 : IntKind.i64.wrap ((i : Int) + 1) = (i : Int) + 1 := by rw [wrap_i64 _ (by omega) (by omega)]
      have hmi : b + 1 - ((i : Int) + 1).toNat < b + 1 - (i : Int).toNat := by omega
      (repeat' (first | (simp (maxDischargeDepth := 16) only [*, ↓vD, vU, ↓vMd, vMu, vZ, seval, k_app, k_slc1]) | (with_reducible refine gs (fun _ => ?_) (fun _ => ?_)) | (with_reducible refine cs_ (fun _ => ?_) (fun _ => ?_)) | (with_reducible refine appK_a ?_)))
      refine loopm_of (by simp only [asgL, dsts, List.cons_append, List.nil_append, List.append_nil]; rfl) (by simp only [noR, Bool.and_true, Bool.and_false]; rfl) (fun fr2 s => ∃ P1 P2 : List α, s = ob st bb f rest (A ++ (P1 ++ (x :: (P2 ++ R)))) ∧ fr2.t 9 = .int .i64 ((a + P1.length : Nat) : Int) ∧ P1.length + P2.length = i - a ∧ Srt (ltB cf) (P1 ++ P2) ∧ Stb (ltB cf) (M.take (i - a)) (P1 ++ P2) ∧ ∀ z ∈ P2, ltB cf x z = true)
        (fun fr2 _ => (match fr2.t 9 with | .int _ n => n.toNat | _ => 0)) ?_ ?_
      · have := H.out.1
        exact ⟨M1, [], rfl, by simp [↓vD, vU, ↓vMd, vMu, vZ, seval, k_app, k_slc1]; omega, by simp; omega, by simpa using hsr, by simpa using hst, by simp⟩
      · rintro fr2 s hf2 hd2 ⟨P1, P2, rfl, h9, hPP, hs1, hs2, hP2⟩
        rcases List.eq_nil_or_concat P1 with rfl | ⟨P, y, rfl⟩
        · have e2 : decide ((a : Int) < ((a + ([] : List α).length : Nat) : Int)) = false := by simp
          have hfin := H.out.2.2 [] P2 hPP (ins_done o hs1 hs2 hP2 (by simp))
          (repeat' (first | (simp (maxDischargeDepth := 16) only [*, ↓vD, vU, ↓vMd, vMu, vZ, seval, k_app, k_slc1]) | (with_reducible refine gs (fun _ => ?_) (fun _ => ?_)) | (with_reducible refine cs_ (fun _ => ?_) (fun _ => ?_)) | (with_reducible refine appK_a ?_)))
          obtain ⟨i1, M2, hh⟩ := hfin
          exact ⟨_, St.le.refl _, i1, M2, hh⟩
        · obtain ⟨m, hmm⟩ : ∃ m, a + P.length = m := ⟨_, rfl⟩
          obtain ⟨j, hjm⟩ : ∃ j, m + 1 = j := ⟨_, rfl⟩
          have hj : a + (P.concat y).length = j := by simp; omega
          rw [hj] at h9
          have hl2 := H.out.2.1
          have hq : P.length + 1 + P2.length = i - a := by simpa using hPP
          have hlen2 : (A ++ (P.concat y ++ (x :: (P2 ++ R)))).length = L := by
            simp only [List.length_append, List.length_cons, List.concat_eq_append, List.length_nil]; omega
          obtain ⟨ys, hys⟩ : ∃ ys, ys = A ++ (P.concat y ++ (x :: (P2 ++ R))) := ⟨_, rfl⟩
          have gx : ys.getD j default = x := by
            rw [hys, ← List.append_assoc]; exact getD_mid _ _ _ _ (by simp; omega)
          have gy : ys.getD m default = y := by
            rw [hys, show A ++ (P.concat y ++ (x :: (P2 ++ R))) = (A ++ P) ++ y :: (x :: (P2 ++ R)) by simp]; exact getD_mid _ _ _ _ (by simp; omega)
          have gsw : (ys.set j y).set m x = A ++ (P ++ (x :: ((y :: P2) ++ R))) := by
            have h3 := swp_app (A ++ P) [] (P2 ++ R) y x
            have e3 : (A ++ P).length = m := by simp; omega
            have e4 : m + 1 + ([] : List α).length = j := by simp; omega
            rw [e3, e4, swp_comm _ _ _ (by omega)] at h3
            unfold swp at h3
            rw [show (A ++ P) ++ y :: ([] ++ x :: (P2 ++ R)) = ys by rw [hys]; simp, gx, gy] at h3
            rw [h3]; simp
          rw [← hys] at hlen2 ⊢
          have i1 : m < ys.length := by omega
          have i2 : j < ys.length := by omega
          have i3 : m < (ys.set j y).length := by simp; omega
          have i4 : m < L := by omega
          have i5 : j < L := by omega
          have e2 : decide ((a : Int) < (j : Int)) = true := by simp; omega
          have w3 : IntKind.i64.wrap ((j : Int) - 1) = (m : Int) := by rw [wrap_i64 _ (by omega) (by omega)]; omega
          have hld := ld f hok hag
          have hst' := sto f hok
          have HY := Hid.mk (And.intro hys (And.intro hj (And.intro hjm (And.intro hmm gsw))))
          clear hys hj hmm hjm gsw
          (repeat' (first | (simp (maxDischargeDepth := 16) only [*, ob_iad, ↓vD, vU, ↓vMd, vMu, vZ, seval, k_app, k_slc1]) | (with_reducible refine gs (fun _ => ?_) (fun _ => ?_)) | (with_reducible refine cs_ (fun _ => ?_) (fun _ => ?_)) | (with_reducible refine appK_a ?_) | (with_reducible refine callH_useC (hc _ _) (hQst _ _) ?_)))
          · rename_i hcmp
            obtain ⟨hys, hj, hjm, hmm, gsw⟩ := HY.out
            refine ⟨_, St.le.refl _, ⟨P, y :: P2, by rw [gsw], by omega, by simp only [List.length_cons]; omega, by simpa using hs1, by simpa using hs2, fun z hz => ?_⟩, by omega⟩
            rcases List.mem_cons.1 hz with rfl | hz
            · exact hcmp
            · exact hP2 z hz
          · rename_i hcmp
            obtain ⟨hys, hj, hjm, hmm, gsw⟩ := HY.out
            have hs0 : Srt (ltB cf) (P ++ [y]) := by simpa using hs1.left
            obtain ⟨k1, M2, hh⟩ := H.out.2.2 (P.concat y) P2 hPP (ins_done o hs1 hs2 hP2 (by simpa using last_le o hs0 hcmp))
            rw [hys]
            exact ⟨_, St.le.refl _, k1, M2, hh⟩
          all_goals (exfalso; rename_i h; simp only [decide_eq_false_iff_not] at h; have := HY.out.2.2.1; have := HY.out.2.2.2.1; omega)
    · have e1 : decide ((i : Int) < b) = false := by simp; omega
      have hM : M.drop (i - a) = [] := List.drop_of_length_le (by omega)
      have hT : M.take (i - a) = M := List.take_of_length_le (by omega)
      rw [hT] at hst
      rw [hM]
      (repeat' (first | (simp (maxDischargeDepth := 16) only [*, ↓vD, vU, ↓vMd, vMu, vZ, seval, k_app, k_slc1]) | (with_reducible refine gs (fun _ => ?_) (fun _ => ?_)) | (with_reducible refine cs_ (fun _ => ?_) (fun _ => ?_)) | (with_reducible refine appK_a ?_)))
      exact ⟨_, St.le.refl _, M1, rfl, hsr, hst⟩
def SymK (f : α → AV) (cf : α → α → Int) (st : St) (bb : Nat) (rest : List AV) (A U V C : List α) (r : AV) (s : St) : Prop := r = .tup [] ∧ ∃ M, s = ob st bb f rest (A ++ (M ++ C)) ∧ Srt (ltB cf) M ∧ Stb (ltB cf) (U ++ V) M
theorem sym_left (f : α → AV) (hok : ∀ x, okEl 1 (f x) = true) (hag : ∀ x, (f x).cells = [f x]) {gf : Nat} {fs cs : List AV} (cf : α → α → Int) (o : SWO (ltB cf)) {Q : St → Prop} (hc : ∀ x y (Y : Im) (s : St), Q s → VCalls Try.prog Y gf (fs ++ [f x, f y] ++ cs) s (fun r s' => r = .int .i64 (cf x y) ∧ s' = s))
    (st : St) (bb L c : Nat) (hQst : ∀ (rest : List AV) (xs : List α), Q (ob st bb f rest xs)) (rest : List AV) (A V C : List α) (x : α) (a m b : Nat) (ha : A.length = a) (hm0 : a + 1 = m) (hb : m + V.length = b) (hV0 : 0 < V.length) (hV : Srt (ltB cf) V) (hL : (A ++ ([x] ++ (V ++ C))).length = L) (hm : L ≤ 1000000000) :
    VCalls Try.prog Z 93 [.osl bb L c, .int .i64 a, .int .i64 m, .int .i64 b, .clo gf fs cs] (ob st bb f rest (A ++ ([x] ++ (V ++ C)))) (SymK f cf st bb rest A [x] V C) := by
  have hlen : A.length + (1 + (V.length + C.length)) = L := by rw [← hL]; simp; omega
  obtain ⟨ys, hys⟩ : ∃ ys, ys = A ++ ([x] ++ (V ++ C)) := ⟨_, rfl⟩
  have hyl : ys.length = L := by rw [hys]; exact hL
  have eu : ys.getD a default = x := by rw [hys]; exact getD_mid _ _ _ _ ha
  have ev : ∀ t, m ≤ t → t < b → ys.getD t default = V.getD (t - m) default := fun t h1 h2 => by
    rw [hys, ← List.append_assoc, rd_app_mid (A ++ [x]) V C t (by simp; omega) (by simp; omega)]
    congr 1; simp; omega
  have mono : ∀ p q, m ≤ p → p ≤ q → q < b → ltB cf (V.getD (q - m) default) x = true → ltB cf (V.getD (p - m) default) x = true := fun p q h0 h1 h2 h3 => by
    by_cases hpq : p = q
    · rw [hpq]; exact h3
    · have h5 := srt_rd hV (p - m) (q - m) (by omega) (by omega)
      cases e : ltB cf (V.getD (p - m) default) x
      · rw [o.neg _ _ _ h5 e] at h3; cases h3
      · rfl
  have w1 : IntKind.i64.wrap ((m : Int) - a) = 1 := by rw [wrap_i64 _ (by omega) (by omega)]; omega
  have hla : a < ys.length := by omega
  have hlaL : a < L := by omega
  have hbL : b ≤ L := by omega
  have hld := ld f hok hag
  have hst' := sto f hok
  have HY := Hid.mk (And.intro hys (And.intro hlen (And.intro mono ev)))
  rw [← hys]
  clear hys hlen mono hL ev
  refine VCalls.of v_slices_symMergeCmpFunc_int64_ok (Nat.le_of_ble_eq_true rfl) ?_
  simp only [v_slices_symMergeCmpFunc_int64, ↓vD, vU, ↓vMd, vMu, vZ, seval, k_app, k_slc1]
  (repeat' (first | (simp (maxDischargeDepth := 16) only [*, ↓vD, vU, ↓vMd, vMu, vZ, seval, k_app, k_slc1]) | (with_reducible refine gs (fun _ => ?_) (fun _ => ?_)) | (with_reducible refine cs_ (fun _ => ?_) (fun _ => ?_)) | (with_reducible refine appK_a ?_)))
  refine loopm_of (by simp only [asgL, dsts, List.cons_append, List.nil_append, List.append_nil]; rfl) (by simp only [noR, Bool.and_true, Bool.and_false]; rfl) (fun fr s => ∃ i j : Nat, s = ob st bb f rest ys ∧ fr.t 10 = .int .i64 i ∧ fr.t 11 = .int .i64 j ∧ BX (fun t => ltB cf (V.getD (t - m) default) x) m b i j)
    (fun fr _ => (match fr.t 11 with | .int _ n => n.toNat | _ => 0) - (match fr.t 10 with | .int _ n => n.toNat | _ => 0)) ?_ ?_
  · exact ⟨m, b, rfl, by simp [↓vD, vU, ↓vMd, vMu, vZ, seval, k_app, k_slc1], by simp [↓vD, vU, ↓vMd, vMu, vZ, seval, k_app, k_slc1], BX.start _ (by omega)⟩
  · rintro fr s hf hd ⟨i, j, rfl, h10, h11, hbx⟩
    have b1 := hbx.li
    have b2 := hbx.ij
    have b3 := hbx.jh
    by_cases hlt : i < j
    · obtain ⟨n, hh, hhh, x1, x2, x3, x4⟩ := halves i j (by omega)
      have e1 : decide ((i : Int) < j) = true := by simp; omega
      have hk1 : hh < ys.length := by omega
      have hk2 : hh < L := by omega
      have gh := HY.out.2.2.2 hh (by omega) (by omega)
      have w2 := wrap_i64 ((hh : Int) + 1) (by omega) (by omega)
      have HH := Hid.mk hhh
      clear hhh
      (repeat' (first | (simp (maxDischargeDepth := 16) only [*, ob_iad, ↓vD, vU, ↓vMd, vMu, vZ, seval, k_app, k_slc1]) | (with_reducible refine gs (fun _ => ?_) (fun _ => ?_)) | (with_reducible refine cs_ (fun _ => ?_) (fun _ => ?_)) | (with_reducible refine appK_a ?_) | (with_reducible refine callH_useC (hc _ _) (hQst _ _) ?_)))
      · rename_i hcmp
        exact ⟨_, St.le.refl _, ⟨hh + 1, j, rfl, by simp, rfl, hbx.up HY.out.2.2.1 HH.out hlt hcmp⟩, by have h0 := HH.out; have h1 : i ≤ hh := (by rw [h0]; omega); simp only [tn0, tn1]; exact Nat.sub_lt_sub_left hlt (Nat.lt_succ_of_le h1)⟩
      · rename_i hcmp
        exact ⟨_, St.le.refl _, ⟨i, hh, rfl, rfl, rfl, hbx.down HY.out.2.2.1 HH.out hlt hcmp⟩, by have := HH.out; simp only [tn0, tn1]; omega⟩
    · have e1 : decide ((i : Int) < j) = false := by simp; omega
      obtain ⟨r, hr⟩ : ∃ r, r + 1 = i := ⟨i - 1, by omega⟩
      have w2 : IntKind.i64.wrap ((i : Int) - 1) = (r : Int) := by rw [wrap_i64 _ (by omega) (by omega)]; omega
      have hfin := one_left o (x := x) hV (r - a) (fun z hz => by
        obtain ⟨p, hp1, hp2, rfl⟩ := mem_take_rd hz
        have := hbx.yes (m + p) (by omega) (by omega)
        simpa [Nat.add_sub_cancel_left] using this) (fun z hz => by
        obtain ⟨p, hp1, hp2, rfl⟩ := mem_drop_rd hz
        have := hbx.no (m + p) (by omega) (by omega)
        simpa [Nat.add_sub_cancel_left] using this)
      have hrL : r < L := by omega
      have hraL : a ≤ r := by omega
      have hrb : r + 1 ≤ b := by omega
      (repeat' (first | (simp (maxDischargeDepth := 16) only [*, ↓vD, vU, ↓vMd, vMu, vZ, seval, k_app, k_slc1]) | (with_reducible refine gs (fun _ => ?_) (fun _ => ?_)) | (with_reducible refine cs_ (fun _ => ?_) (fun _ => ?_)) | (with_reducible refine appK_a ?_)))
      refine loopm_of (by simp only [asgL, dsts, List.cons_append, List.nil_append, List.append_nil]; rfl) (by simp only [noR, Bool.and_true, Bool.and_false]; rfl) (fun fr2 s => ∃ k : Nat, s = ob st bb f rest (A ++ (V.take (k - a) ++ (x :: (V.drop (k - a) ++ C)))) ∧ fr2.t 13 = .int .i64 k ∧ a ≤ k ∧ k ≤ r) (fun fr2 _ => r - (match fr2.t 13 with | .int _ n => n.toNat | _ => 0)) ?_ ?_
      · exact ⟨a, by rw [HY.out.1]; simp, by simp [↓vD, vU, ↓vMd, vMu, vZ, seval, k_app, k_slc1], by omega, by omega⟩
      · rintro fr2 s hf2 hd2 ⟨k, rfl, h13, hak, hkr⟩
        by_cases hkl : k < r
        · have e2 : decide ((k : Int) < r) = true := by simp; omega
          obtain ⟨k1, hk1⟩ : ∃ k1, k + 1 = k1 := ⟨_, rfl⟩
          have w3 : IntKind.i64.wrap ((k : Int) + 1) = (k1 : Int) := by rw [wrap_i64 _ (by omega) (by omega)]; omega
          have hl2 := HY.out.2.1
          have hkV : k - a < V.length := by omega
          obtain ⟨y, hy⟩ : ∃ y, V[k - a] = y := ⟨_, rfl⟩
          have hvd : V.drop (k - a) = y :: V.drop (k1 - a) := by rw [List.drop_eq_getElem_cons hkV, hy, show k1 - a = k - a + 1 by omega]
          have hvt : V.take (k1 - a) = V.take (k - a) ++ [y] := by rw [show k1 - a = k - a + 1 by omega, List.take_succ_eq_append_getElem hkV, hy]
          obtain ⟨zs, hzs⟩ : ∃ zs, zs = A ++ (V.take (k - a) ++ (x :: (V.drop (k - a) ++ C))) := ⟨_, rfl⟩
          have hzl : zs.length = L := by rw [hzs]; simp only [List.length_append, List.length_take, List.length_cons, List.length_drop]; omega
          have g1 : zs.getD k default = x := by rw [hzs, ← List.append_assoc]; exact getD_mid _ _ _ _ (by simp; omega)
          have g2 : zs.getD k1 default = y := by
            rw [hzs, hvd, show A ++ (V.take (k - a) ++ (x :: (y :: V.drop (k1 - a) ++ C))) = (A ++ (V.take (k - a) ++ [x])) ++ y :: (V.drop (k1 - a) ++ C) by simp]
            exact getD_mid _ _ _ _ (by simp; omega)
          have gsw : (zs.set k y).set k1 x = A ++ (V.take (k1 - a) ++ (x :: (V.drop (k1 - a) ++ C))) := by
            have h3 := swp_app (A ++ V.take (k - a)) [] (V.drop (k1 - a) ++ C) x y
            have e3 : (A ++ V.take (k - a)).length = k := by simp; omega
            have e4 : k + 1 + ([] : List α).length = k1 := by simp; omega
            rw [e3, e4] at h3
            unfold swp at h3
            rw [show (A ++ V.take (k - a)) ++ x :: ([] ++ y :: (V.drop (k1 - a) ++ C)) = zs by rw [hzs, hvd]; simp, g1, g2] at h3
            rw [h3, hvt]; simp
          have i1 : k < zs.length := by omega
          have i2 : k1 < zs.length := by omega
          have i3 : k1 < (zs.set k y).length := by simp; omega
          have i4 : k < L := by omega
          have i5 : k1 < L := by omega
          rw [← hzs]
          have HG := Hid.mk (And.intro gsw hk1)
          clear gsw hzs hvd hvt hk1 hl2 hfin hbx hy
          (repeat' (first | (simp (maxDischargeDepth := 16) only [*, ob_iad, ↓vD, vU, ↓vMd, vMu, vZ, seval, k_app, k_slc1]) | (with_reducible refine gs (fun _ => ?_) (fun _ => ?_)) | (with_reducible refine cs_ (fun _ => ?_) (fun _ => ?_)) | (with_reducible refine appK_a ?_)))
          exact ⟨_, St.le.refl _, ⟨k1, by rw [HG.out.1], rfl, by have := HG.out.2; omega, by have := HG.out.2; omega⟩, by have := HG.out.2; simp only [tn0, tn1]; omega⟩
        · have e2 : decide ((k : Int) < r) = false := by simp; omega
          have hkr' : k = r := by omega
          subst hkr'
          (repeat' (first | (simp (maxDischargeDepth := 16) only [*, ↓vD, vU, ↓vMd, vMu, vZ, seval, k_app, k_slc1]) | (with_reducible refine gs (fun _ => ?_) (fun _ => ?_)) | (with_reducible refine cs_ (fun _ => ?_) (fun _ => ?_)) | (with_reducible refine appK_a ?_)))
          exact ⟨_, St.le.refl _, rfl, _, by rw [List.append_assoc, List.cons_append], hfin⟩
theorem sym_right (f : α → AV) (hok : ∀ x, okEl 1 (f x) = true) (hag : ∀ x, (f x).cells = [f x]) {gf : Nat} {fs cs : List AV} (cf : α → α → Int) (o : SWO (ltB cf)) {Q : St → Prop} (hc : ∀ x y (Y : Im) (s : St), Q s → VCalls Try.prog Y gf (fs ++ [f x, f y] ++ cs) s (fun r s' => r = .int .i64 (cf x y) ∧ s' = s))
    (st : St) (bb L c : Nat) (hQst : ∀ (rest : List AV) (xs : List α), Q (ob st bb f rest xs)) (rest : List AV) (A U C : List α) (y : α) (a m b : Nat) (ha : A.length = a) (hm0 : a + U.length = m) (hb : m + 1 = b) (hU1 : 1 < U.length) (hU : Srt (ltB cf) U) (hL : (A ++ (U ++ ([y] ++ C))).length = L) (hm : L ≤ 1000000000) :
    VCalls Try.prog Z 93 [.osl bb L c, .int .i64 a, .int .i64 m, .int .i64 b, .clo gf fs cs] (ob st bb f rest (A ++ (U ++ ([y] ++ C)))) (SymK f cf st bb rest A U [y] C) := by
  have hlen : A.length + (U.length + (1 + C.length)) = L := by rw [← hL]; simp; omega
  obtain ⟨ys, hys⟩ : ∃ ys, ys = A ++ (U ++ ([y] ++ C)) := ⟨_, rfl⟩
  have hyl : ys.length = L := by rw [hys]; exact hL
  have eu : ys.getD m default = y := by rw [hys, ← List.append_assoc]; exact getD_mid _ _ _ _ (by simp; omega)
  have ev : ∀ t, a ≤ t → t < m → ys.getD t default = U.getD (t - a) default := fun t h1 h2 => by
    rw [hys, rd_app_mid A U ([y] ++ C) t (by omega) (by omega)]
    congr 1; omega
  have mono : ∀ p q, a ≤ p → p ≤ q → q < m → (!ltB cf y (U.getD (q - a) default)) = true → (!ltB cf y (U.getD (p - a) default)) = true := fun p q h0 h1 h2 h3 => by
    by_cases hpq : p = q
    · rw [hpq]; exact h3
    · have h5 := srt_rd hU (p - a) (q - a) (by omega) (by omega)
      simp only [Bool.not_eq_true'] at h3 ⊢
      exact o.neg _ _ _ h3 h5
  obtain ⟨u, hu⟩ : ∃ u, U.length = u := ⟨_, rfl⟩
  have w1 : IntKind.i64.wrap ((m : Int) - a) = (u : Int) := by rw [wrap_i64 _ (by omega) (by omega)]; omega
  have e0 : ((u : Int) == 1) = false := by simp; omega
  have w0 : IntKind.i64.wrap ((b : Int) - m) = 1 := by rw [wrap_i64 _ (by omega) (by omega)]; omega
  have hla : m < ys.length := by omega
  have hlaL : m < L := by omega
  have hld := ld f hok hag
  have hst' := sto f hok
  have HY := Hid.mk (And.intro hys (And.intro hlen (And.intro mono (And.intro ev hu))))
  rw [← hys]
  clear hys hlen mono hL ev hu
  refine VCalls.of v_slices_symMergeCmpFunc_int64_ok (Nat.le_of_ble_eq_true rfl) ?_
  simp only [v_slices_symMergeCmpFunc_int64, ↓vD, vU, ↓vMd, vMu, vZ, seval, k_app, k_slc1]
  (repeat' (first | (simp (maxDischargeDepth := 16) only [*, ↓vD, vU, ↓vMd, vMu, vZ, seval, k_app, k_slc1]) | (with_reducible refine gs (fun _ => ?_) (fun _ => ?_)) | (with_reducible refine cs_ (fun _ => ?_) (fun _ => ?_)) | (with_reducible refine appK_a ?_)))
  refine loopm_of (by simp only [asgL, dsts, List.cons_append, List.nil_append, List.append_nil]; rfl) (by simp only [noR, Bool.and_true, Bool.and_false]; rfl) (fun fr s => ∃ i j : Nat, s = ob st bb f rest ys ∧ fr.t 14 = .int .i64 i ∧ fr.t 15 = .int .i64 j ∧ BX (fun t => !ltB cf y (U.getD (t - a) default)) a m i j)
    (fun fr _ => (match fr.t 15 with | .int _ n => n.toNat | _ => 0) - (match fr.t 14 with | .int _ n => n.toNat | _ => 0)) ?_ ?_
  · exact ⟨a, m, rfl, by simp [↓vD, vU, ↓vMd, vMu, vZ, seval, k_app, k_slc1], by simp [↓vD, vU, ↓vMd, vMu, vZ, seval, k_app, k_slc1], BX.start _ (by omega)⟩
  · rintro fr s hf hd ⟨i, j, rfl, h10, h11, hbx⟩
    have b1 := hbx.li
    have b2 := hbx.ij
    have b3 := hbx.jh
    by_cases hlt : i < j
    · obtain ⟨n, hh, hhh, x1, x2, x3, x4⟩ := halves i j (by omega)
      have e1 : decide ((i : Int) < j) = true := by simp; omega
      have hk1 : hh < ys.length := by omega
      have hk2 : hh < L := by omega
      have gh := HY.out.2.2.2.1 hh (by omega) (by omega)
      have w2 := wrap_i64 ((hh : Int) + 1) (by omega) (by omega)
      have HH := Hid.mk hhh
      clear hhh
      (repeat' (first | (simp (maxDischargeDepth := 16) only [*, ob_iad, ↓vD, vU, ↓vMd, vMu, vZ, seval, k_app, k_slc1]) | (with_reducible refine gs (fun _ => ?_) (fun _ => ?_)) | (with_reducible refine cs_ (fun _ => ?_) (fun _ => ?_)) | (with_reducible refine appK_a ?_) | (with_reducible refine callH_useC (hc _ _) (hQst _ _) ?_)))
      · rename_i hcmp
        exact ⟨_, St.le.refl _, ⟨hh + 1, j, rfl, by simp, rfl, hbx.up HY.out.2.2.1 HH.out hlt hcmp⟩, by have h0 := HH.out; have h1 : i ≤ hh := (by rw [h0]; omega); simp only [tn0, tn1]; exact Nat.sub_lt_sub_left hlt (Nat.lt_succ_of_le h1)⟩
      · rename_i hcmp
        exact ⟨_, St.le.refl _, ⟨i, hh, rfl, rfl, rfl, hbx.down HY.out.2.2.1 HH.out hlt hcmp⟩, by have := HH.out; simp only [tn0, tn1]; omega⟩
    · have e1 : decide ((i : Int) < j) = false := by simp; omega
      have hij : j = i := by omega
      subst hij
      have hul := HY.out.2.2.2.2
      have hfin := one_right o (y := y) hU (j - a) (fun z hz => by
        obtain ⟨p, hp1, hp2, rfl⟩ := mem_take_rd hz
        have := hbx.yes (a + p) (by omega) (by omega)
        simpa [Nat.add_sub_cancel_left] using this) (fun z hz => by
        obtain ⟨p, hp1, hp2, rfl⟩ := mem_drop_rd hz
        have := hbx.no (a + p) (by omega) (by omega)
        simpa [Nat.add_sub_cancel_left] using this)
      clear hul
      (repeat' (first | (simp (maxDischargeDepth := 16) only [*, ↓vD, vU, ↓vMd, vMu, vZ, seval, k_app, k_slc1]) | (with_reducible refine gs (fun _ => ?_) (fun _ => ?_)) | (with_reducible refine cs_ (fun _ => ?_) (fun _ => ?_)) | (with_reducible refine appK_a ?_)))
      refine loopm_of (by simp only [asgL, dsts, List.cons_append, List.nil_append, List.append_nil]; rfl) (by simp only [noR, Bool.and_true, Bool.and_false]; rfl) (fun fr2 s => ∃ k : Nat, s = ob st bb f rest (A ++ (U.take (k - a) ++ (y :: (U.drop (k - a) ++ C)))) ∧ fr2.t 17 = .int .i64 k ∧ j ≤ k ∧ k ≤ m) (fun fr2 _ => (match fr2.t 17 with | .int _ n => n.toNat | _ => 0)) ?_ ?_
      · have hul := HY.out.2.2.2.2
        refine ⟨m, ?_, by simp [↓vD, vU, ↓vMd, vMu, vZ, seval, k_app, k_slc1], by omega, by omega⟩
        rw [HY.out.1, List.take_of_length_le (by omega), List.drop_of_length_le (by omega)]; simp
      · rintro fr2 s hf2 hd2 ⟨k, rfl, h13, hak, hkr⟩
        by_cases hkl : j < k
        · have e2 : decide ((j : Int) < k) = true := by simp; omega
          obtain ⟨k1, hk1⟩ : ∃ k1, k1 + 1 = k := ⟨k - 1, by omega⟩
          have w3 : IntKind.i64.wrap ((k : Int) - 1) = (k1 : Int) := by rw [wrap_i64 _ (by omega) (by omega)]; omega
          have hl2 := HY.out.2.1
          have hul := HY.out.2.2.2.2
          have hkV : k1 - a < U.length := by omega
          obtain ⟨x, hx⟩ : ∃ x, U[k1 - a] = x := ⟨_, rfl⟩
          have hvd : U.drop (k1 - a) = x :: U.drop (k - a) := by rw [List.drop_eq_getElem_cons hkV, hx, show k - a = k1 - a + 1 by omega]
          have hvt : U.take (k - a) = U.take (k1 - a) ++ [x] := by rw [show k - a = k1 - a + 1 by omega, List.take_succ_eq_append_getElem hkV, hx]
          obtain ⟨zs, hzs⟩ : ∃ zs, zs = A ++ (U.take (k - a) ++ (y :: (U.drop (k - a) ++ C))) := ⟨_, rfl⟩
          have hzl : zs.length = L := by rw [hzs]; simp only [List.length_append, List.length_take, List.length_cons, List.length_drop]; omega
          have g1 : zs.getD k default = y := by rw [hzs, ← List.append_assoc]; exact getD_mid _ _ _ _ (by simp; omega)
          have g2 : zs.getD k1 default = x := by
            rw [hzs, hvt, show A ++ (U.take (k1 - a) ++ [x] ++ (y :: (U.drop (k - a) ++ C))) = (A ++ U.take (k1 - a)) ++ x :: (y :: (U.drop (k - a) ++ C)) by simp]
            exact getD_mid _ _ _ _ (by simp; omega)
          have gsw : (zs.set k x).set k1 y = A ++ (U.take (k1 - a) ++ (y :: (U.drop (k1 - a) ++ C))) := by
            have h3 := swp_app (A ++ U.take (k1 - a)) [] (U.drop (k - a) ++ C) x y
            have e3 : (A ++ U.take (k1 - a)).length = k1 := by simp; omega
            have e4 : k1 + 1 + ([] : List α).length = k := by simp; omega
            rw [e3, e4, swp_comm _ _ _ (by omega)] at h3
            unfold swp at h3
            rw [show (A ++ U.take (k1 - a)) ++ x :: ([] ++ y :: (U.drop (k - a) ++ C)) = zs by rw [hzs, hvt]; simp, g1, g2] at h3
            rw [h3, hvd]; simp
          have i1 : k < zs.length := by omega
          have i2 : k1 < zs.length := by omega
          have i3 : k1 < (zs.set k x).length := by simp; omega
          have i4 : k < L := by omega
          have i5 : k1 < L := by omega
          rw [← hzs]
          have HG := Hid.mk (And.intro gsw hk1)
          clear gsw hzs hvd hvt hk1 hl2 hfin hbx hx hul
          (repeat' (first | (simp (maxDischargeDepth := 16) only [*, ob_iad, ↓vD, vU, ↓vMd, vMu, vZ, seval, k_app, k_slc1]) | (with_reducible refine gs (fun _ => ?_) (fun _ => ?_)) | (with_reducible refine cs_ (fun _ => ?_) (fun _ => ?_)) | (with_reducible refine appK_a ?_)))
          exact ⟨_, St.le.refl _, ⟨k1, by rw [HG.out.1], rfl, by have := HG.out.2; omega, by have := HG.out.2; omega⟩, by have := HG.out.2; simp only [tn0, tn1]; omega⟩
        · have e2 : decide ((j : Int) < k) = false := by simp; omega
          have hkr' : k = j := by omega
          subst hkr'
          (repeat' (first | (simp (maxDischargeDepth := 16) only [*, ↓vD, vU, ↓vMd, vMu, vZ, seval, k_app, k_slc1]) | (with_reducible refine gs (fun _ => ?_) (fun _ => ?_)) | (with_reducible refine cs_ (fun _ => ?_) (fun _ => ?_)) | (with_reducible refine appK_a ?_)))
          exact ⟨_, St.le.refl _, rfl, _, by rw [List.append_assoc, List.cons_append], hfin⟩
theorem cut_facts {lt : α → α → Bool} (o : SWO lt) {ys U V : List α} {a m b mid lo hi s en : Nat} (hu : a + U.length = m) (hv : m + V.length = b) (hmid : mid = (a + b) / 2)
    (eu : ∀ t, a ≤ t → t < m → ys.getD t default = U.getD (t - a) default) (ev : ∀ t, m ≤ t → t < b → ys.getD t default = V.getD (t - m) default) (hU : Srt lt U) (hV : Srt lt V)
    (hlo : lo = a ∨ lo + b = mid + m) (hhi : hi = m ∨ hi = mid) (l1 : a ≤ lo) (l2 : mid + m ≤ lo + b) (l3 : hi ≤ m) (l4 : hi ≤ mid) (hen : en + s = mid + m)
    (hB : BX (fun t => !lt (ys.getD (mid + m - 1 - t) default) (ys.getD t default)) lo hi s s) :
    (∀ x ∈ U.take (s - a), ∀ y ∈ V.drop (en - m), lt y x = false) ∧ (∀ x ∈ U.drop (s - a), ∀ y ∈ V.take (en - m), lt y x = true) := by
  have b1 := hB.li
  have b2 := hB.jh
  constructor
  · intro x hx y hy2
    obtain ⟨p, hp, hpl, rfl⟩ := mem_take_rd hx
    obtain ⟨q, hq, hql, rfl⟩ := mem_drop_rd hy2
    have h1 := hB.yes (s - 1) (by omega) (by omega)
    have h2 : U.getD p default = ys.getD (a + p) default := by rw [eu _ (by omega) (by omega)]; congr 1; omega
    have h3 : V.getD q default = ys.getD (m + q) default := by rw [ev _ (by omega) (by omega)]; congr 1; omega
    rw [h2, h3]
    have h4 : lt (ys.getD (s - 1) default) (ys.getD (a + p) default) = false := by
      by_cases e : s - 1 = a + p
      · rw [e]; exact o.irr _
      · rw [eu _ (by omega) (by omega), eu (a + p) (by omega) (by omega)]
        exact srt_rd hU _ _ (by omega) (by omega)
    have h5 : lt (ys.getD (m + q) default) (ys.getD (mid + m - 1 - (s - 1)) default) = false := by
      by_cases e : m + q = mid + m - 1 - (s - 1)
      · rw [← e]; exact o.irr _
      · rw [ev (m + q) (by omega) (by omega), ev (mid + m - 1 - (s - 1)) (by omega) (by omega)]
        exact srt_rd hV _ _ (by omega) (by omega)
    exact o.neg _ _ _ (o.neg _ _ _ h5 (by simpa using h1)) h4
  · intro x hx y hy2
    obtain ⟨p, hp, hpl, rfl⟩ := mem_drop_rd hx
    obtain ⟨q, hq, hql, rfl⟩ := mem_take_rd hy2
    have h1 := hB.no s (by omega) (by omega)
    have h2 : U.getD p default = ys.getD (a + p) default := by rw [eu _ (by omega) (by omega)]; congr 1; omega
    have h3 : V.getD q default = ys.getD (m + q) default := by rw [ev _ (by omega) (by omega)]; congr 1; omega
    rw [h2, h3]
    have h4 : lt (ys.getD (a + p) default) (ys.getD s default) = false := by
      by_cases e : s = a + p
      · rw [e]; exact o.irr _
      · rw [eu (a + p) (by omega) (by omega), eu s (by omega) (by omega)]
        exact srt_rd hU _ _ (by omega) (by omega)
    have h5 : lt (ys.getD (mid + m - 1 - s) default) (ys.getD (m + q) default) = false := by
      by_cases e : m + q = mid + m - 1 - s
      · rw [e]; exact o.irr _
      · rw [ev (m + q) (by omega) (by omega), ev (mid + m - 1 - s) (by omega) (by omega)]
        exact srt_rd hV _ _ (by omega) (by omega)
    have h6 : lt (ys.getD (mid + m - 1 - s) default) (ys.getD s default) = true := by simpa using h1
    cases e : lt (ys.getD (m + q) default) (ys.getD (a + p) default)
    · rw [o.neg _ _ _ h5 (o.neg _ _ _ e h4)] at h6; cases h6
    · rfl
theorem mono_mid {lt : α → α → Bool} (o : SWO lt) {ys U V : List α} {a m b mid : Nat} (hu : a + U.length = m) (hv : m + V.length = b) (hmid : mid = (a + b) / 2)
    (eu : ∀ t, a ≤ t → t < m → ys.getD t default = U.getD (t - a) default) (ev : ∀ t, m ≤ t → t < b → ys.getD t default = V.getD (t - m) default) (hU : Srt lt U) (hV : Srt lt V) :
    ∀ p q, a ≤ p → mid + m ≤ p + b → p ≤ q → q < m → q < mid → (!lt (ys.getD (mid + m - 1 - q) default) (ys.getD q default)) = true → (!lt (ys.getD (mid + m - 1 - p) default) (ys.getD p default)) = true := fun p q h0 h1 h2 h3 h3b h4 => by
  by_cases hpq : p = q
  · rw [hpq]; exact h4
  · have h5 := srt_rd hU (p - a) (q - a) (by omega) (by omega)
    have h6 := srt_rd hV (mid + m - 1 - q - m) (mid + m - 1 - p - m) (by omega) (by omega)
    rw [← eu p (by omega) (by omega), ← eu q (by omega) (by omega)] at h5
    rw [← ev (mid + m - 1 - q) (by omega) (by omega), ← ev (mid + m - 1 - p) (by omega) (by omega)] at h6
    have h7 := o.neg _ _ _ (o.neg _ _ _ h6 (by simpa using h4)) h5
    rw [h7]; rfl
end Go.Proofs.Ytglekfgoadehbaa.V.SoI64
end
section
set_option linter.unusedSimpArgs false
set_option linter.unusedVariables false
/- slices.SortStableFunc at int64: the merge of two rows, the whole. -/
namespace Go.Proofs.Ytglekfgoadehbaa.V.SoI64
open Go Go.Proofs Go.Proofs.Ytglekfgoadehbaa.SP
set_option maxRecDepth 100000
variable {α : Type} [Inhabited α] {Z : Im}
set_option maxHeartbeats 8000000 in
theorem sym_mid (f : α → AV) (hok : ∀ x, okEl 1 (f x) = true) (hag : ∀ x, (f x).cells = [f x]) {gf : Nat} {fs cs : List AV} (cf : α → α → Int) (o : SWO (ltB cf)) {Q : St → Prop} (hc : ∀ x y (Y : Im) (s : St), Q s → VCalls Try.prog Y gf (fs ++ [f x, f y] ++ cs) s (fun r s' => r = .int .i64 (cf x y) ∧ s' = s))
    (st : St) (bb L c : Nat) (hQst : ∀ (rest : List AV) (xs : List α), Q (ob st bb f rest xs)) (rest : List AV) (d : Nat)
    (ih : ∀ (a m b : Nat) (A U V C : List α), A.length = a → a + U.length = m → m + V.length = b → 0 < U.length → 0 < V.length → Srt (ltB cf) U → Srt (ltB cf) V → (A ++ (U ++ (V ++ C))).length = L → U.length + V.length ≤ d →
      VCalls Try.prog Z 93 [.osl bb L c, .int .i64 a, .int .i64 m, .int .i64 b, .clo gf fs cs] (ob st bb f rest (A ++ (U ++ (V ++ C)))) (SymK f cf st bb rest A U V C))
    (A U V C : List α) (a m b : Nat) (ha : A.length = a) (hm0 : a + U.length = m) (hb : m + V.length = b) (hU1 : 1 < U.length) (hV1 : 1 < V.length) (hU : Srt (ltB cf) U) (hV : Srt (ltB cf) V) (hL : (A ++ (U ++ (V ++ C))).length = L) (hm : L ≤ 1000000000) (hd : U.length + V.length ≤ d + 1) :
    VCalls Try.prog Z 93 [.osl bb L c, .int .i64 a, .int .i64 m, .int .i64 b, .clo gf fs cs] (ob st bb f rest (A ++ (U ++ (V ++ C)))) (SymK f cf st bb rest A U V C) := by
  have hlen : A.length + (U.length + (V.length + C.length)) = L := by rw [← hL]; simp
  obtain ⟨ys, hys⟩ : ∃ ys, ys = A ++ (U ++ (V ++ C)) := ⟨_, rfl⟩
  have hyl : ys.length = L := by rw [hys]; exact hL
  have eu : ∀ t, a ≤ t → t < m → ys.getD t default = U.getD (t - a) default := fun t h1 h2 => by
    rw [hys, rd_app_mid A U (V ++ C) t (by omega) (by omega)]; congr 1; omega
  have ev : ∀ t, m ≤ t → t < b → ys.getD t default = V.getD (t - m) default := fun t h1 h2 => by
    rw [hys, ← List.append_assoc, rd_app_mid (A ++ U) V C t (by simp; omega) (by simp; omega)]
    congr 1; simp; omega
  obtain ⟨n0, mid, hmid, x1, x2, x3, x4⟩ := halves a b (by omega)
  have mono := mono_mid o hm0 hb hmid eu ev hU hV
  obtain ⟨u, hu⟩ : ∃ u, U.length = u := ⟨_, rfl⟩
  obtain ⟨v, hv⟩ : ∃ v, V.length = v := ⟨_, rfl⟩
  obtain ⟨n, hn⟩ : ∃ n, mid + m = n := ⟨_, rfl⟩
  have y1 : IntKind.i64.wrap ((m : Int) - a) = (u : Int) := by rw [wrap_i64 _ (by omega) (by omega)]; omega
  have y2 : IntKind.i64.wrap ((b : Int) - m) = (v : Int) := by rw [wrap_i64 _ (by omega) (by omega)]; omega
  have y3 : IntKind.i64.wrap ((mid : Int) + m) = (n : Int) := by rw [wrap_i64 _ (by omega) (by omega)]; omega
  have z1 : ((u : Int) == 1) = false := by simp; omega
  have z2 : ((v : Int) == 1) = false := by simp; omega
  obtain ⟨p, hp⟩ : ∃ p, p + 1 = n := ⟨n - 1, by omega⟩
  have y4 : IntKind.i64.wrap ((n : Int) - 1) = (p : Int) := by rw [wrap_i64 _ (by omega) (by omega)]; omega
  have hld := ld f hok hag
  have ham : a + 2 ≤ m := by omega
  have hmb : m + 2 ≤ b := by omega
  have hbL : b ≤ L := by omega
  obtain ⟨lo, hi, h1, h2, h3, h4, h5, h6, h7, hcase⟩ : ∃ lo hi : Nat, a ≤ lo ∧ n ≤ lo + b ∧ hi ≤ m ∧ hi ≤ mid ∧ lo ≤ hi ∧ (lo = a ∨ lo + b = n) ∧ (hi = m ∨ hi = mid) ∧
      ((mid < m ∧ IntKind.i64.wrap ((n : Int) - b) = (lo : Int) ∧ mid = hi) ∨ (¬ mid < m ∧ a = lo ∧ m = hi)) := by
    by_cases e : mid < m
    · exact ⟨n - b, mid, by omega, by omega, by omega, by omega, by omega, by omega, .inr rfl, .inl ⟨e, by rw [wrap_i64 _ (by omega) (by omega)]; omega, rfl⟩⟩
    · exact ⟨a, m, by omega, by omega, by omega, by omega, by omega, .inl rfl, .inl rfl, .inr ⟨e, rfl, rfl⟩⟩
  have HY := Hid.mk (And.intro hys (And.intro hlen (And.intro mono (And.intro eu (And.intro ev (And.intro hu (And.intro hv (And.intro hn (And.intro hp (And.intro hmid (And.intro h6 (And.intro h7 (And.intro hm0 (And.intro hb hd))))))))))))))
  have HIH := Hid.mk ih
  rw [← hys]
  clear hys hlen mono hL eu ev hu hv hn hp hmid h6 h7 hm0 hb ih hd
  refine VCalls.of v_slices_symMergeCmpFunc_int64_ok (Nat.le_of_ble_eq_true rfl) ?_
  simp only [v_slices_symMergeCmpFunc_int64, ↓vD, vU, ↓vMd, vMu, vZ, seval, k_app, k_slc1]
  have hcase' := Hid.mk hcase
  rcases hcase with ⟨e0, w0, hE⟩ | ⟨e0, hE1, hE2⟩
  · have HE := Hid.mk hE
    clear hE
    (repeat' (first | (simp (maxDischargeDepth := 16) only [*, ↓vD, vU, ↓vMd, vMu, vZ, seval, k_app, k_slc1]) | (with_reducible refine gs (fun _ => ?_) (fun _ => ?_)) | (with_reducible refine cs_ (fun _ => ?_) (fun _ => ?_)) | (with_reducible refine appK_a ?_)))
    refine loopm_of (by simp only [asgL, dsts, List.cons_append, List.nil_append, List.append_nil]; rfl) (by simp only [noR, Bool.and_true, Bool.and_false]; rfl) (fun fr s => ∃ s1 r1 : Nat, s = ob st bb f rest ys ∧ fr.t 20 = .int .i64 s1 ∧ fr.t 21 = .int .i64 r1 ∧ BX (fun t => !ltB cf (ys.getD (mid + m - 1 - t) default) (ys.getD t default)) lo hi s1 r1)
      (fun fr _ => (match fr.t 21 with | .int _ n => n.toNat | _ => 0) - (match fr.t 20 with | .int _ n => n.toNat | _ => 0)) ?_ ?_
    · exact ⟨lo, hi, rfl, by simp [↓vD, vU, ↓vMd, vMu, vZ, seval, k_app, k_slc1], (by simp [↓vD, vU, ↓vMd, vMu, vZ, seval, k_app, k_slc1]; rw [HE.out]), BX.start _ h5⟩
    · rintro fr s hf hdd ⟨s1, r1, rfl, h20, h21, hbx⟩
      have b1 := hbx.li
      have b2 := hbx.ij
      have b3 := hbx.jh
      by_cases hlt : s1 < r1
      · obtain ⟨n1, hh, hhh, q1, q2, q3, q4⟩ := halves s1 r1 (by omega)
        have e1 : decide ((s1 : Int) < r1) = true := by simp; omega
        obtain ⟨hys, hlen, mono, eu, ev, hu, hv, hn, hp, hmid, h6, h7, hm0, hb, hd⟩ := HY.out
        obtain ⟨pc, hpc⟩ : ∃ pc, pc + hh = p := ⟨p - hh, by omega⟩
        have q5 : IntKind.i64.wrap ((p : Int) - hh) = (pc : Int) := by rw [wrap_i64 _ (by omega) (by omega)]; omega
        have q6 := wrap_i64 ((hh : Int) + 1) (by omega) (by omega)
        have i1 : hh < ys.length := by omega
        have i2 : hh < L := by omega
        have i3 : pc < ys.length := by omega
        have i4 : pc < L := by omega
        have hidx : mid + m - 1 - hh = pc := by omega
        have hmn : ∀ p q, lo ≤ p → p ≤ q → q < hi → (fun t => !ltB cf (ys.getD (mid + m - 1 - t) default) (ys.getD t default)) q = true → (fun t => !ltB cf (ys.getD (mid + m - 1 - t) default) (ys.getD t default)) p = true := fun p q k1 k2 k3 k4 => mono p q (by omega) (by omega) k2 (by omega) (by omega) k4
        have HU := Hid.mk (And.intro (fun (hp : (!ltB cf (ys.getD pc default) (ys.getD hh default)) = true) => hbx.up hmn hhh hlt (show (!ltB cf (ys.getD (mid + m - 1 - hh) default) (ys.getD hh default)) = true by rw [hidx]; exact hp)) (fun (hp : (!ltB cf (ys.getD pc default) (ys.getD hh default)) = false) => hbx.down hmn hhh hlt (show (!ltB cf (ys.getD (mid + m - 1 - hh) default) (ys.getD hh default)) = false by rw [hidx]; exact hp)))
        have hs1 : s1 ≤ hh := by rw [hhh]; omega
        have hs2 : hh < r1 := by rw [hhh]; omega
        clear hys hlen mono eu ev hu hv hn hp hmid h6 h7 hm0 hb hd hpc hidx hmn hhh
        (repeat' (first | (simp (maxDischargeDepth := 16) only [*, ob_iad, ↓vD, vU, ↓vMd, vMu, vZ, seval, k_app, k_slc1]) | (with_reducible refine gs (fun _ => ?_) (fun _ => ?_)) | (with_reducible refine cs_ (fun _ => ?_) (fun _ => ?_)) | (with_reducible refine appK_a ?_) | (with_reducible refine callH_useC (hc _ _) (hQst _ _) ?_)))
        · rename_i hcmp
          exact ⟨_, St.le.refl _, ⟨hh + 1, r1, rfl, by simp, rfl, HU.out.1 hcmp⟩, by simp only [tn0, tn1]; exact Nat.sub_lt_sub_left hlt (Nat.lt_succ_of_le hs1)⟩
        · rename_i hcmp
          exact ⟨_, St.le.refl _, ⟨s1, hh, rfl, rfl, rfl, HU.out.2 hcmp⟩, by simp only [tn0, tn1]; omega⟩
      · have hr : r1 = s1 := by omega
        rw [hr] at hbx h21
        clear hr b1 b2 b3 hlt
        have b1 := hbx.li
        have b3 := hbx.jh
        obtain ⟨hys, hlen, mono, eu, ev, hu, hv, hn, hp, hmid, h6, h7, hm0, hb, hd⟩ := HY.out
        obtain ⟨en, hen⟩ : ∃ en, en + s1 = n := ⟨n - s1, by omega⟩
        have q1 : IntKind.i64.wrap ((n : Int) - s1) = (en : Int) := by rw [wrap_i64 _ (by omega) (by omega)]; omega
        obtain ⟨c1, c2⟩ := cut_facts o hm0 hb hmid eu ev hU hV (by omega) h7 h1 (by omega) h3 h4 (show en + s1 = mid + m by omega) hbx
        obtain ⟨l1, hl1⟩ : ∃ l1, U.take (s1 - a) = l1 := ⟨_, rfl⟩
        obtain ⟨l2, hl2⟩ : ∃ l2, U.drop (s1 - a) = l2 := ⟨_, rfl⟩
        obtain ⟨w1, hw1⟩ : ∃ w1, V.take (en - m) = w1 := ⟨_, rfl⟩
        obtain ⟨w2, hw2⟩ : ∃ w2, V.drop (en - m) = w2 := ⟨_, rfl⟩
        rw [hl1, hw2] at c1
        rw [hl2, hw1] at c2
        have hUs : l1 ++ l2 = U := by rw [← hl1, ← hl2, List.take_append_drop]
        have hVs : w1 ++ w2 = V := by rw [← hw1, ← hw2, List.take_append_drop]
        have n1 : a + l1.length = s1 := by rw [← hl1, List.length_take]; omega
        have n2 : s1 + l2.length = m := by rw [← hl2, List.length_drop]; omega
        have n3 : m + w1.length = en := by rw [← hw1, List.length_take]; omega
        have n4 : en + w2.length = b := by rw [← hw2, List.length_drop]; omega
        have sU : Srt (ltB cf) (l1 ++ l2) := by rw [hUs]; exact hU
        have sV : Srt (ltB cf) (w1 ++ w2) := by rw [hVs]; exact hV
        have hys' : ys = A ++ (l1 ++ (l2 ++ (w1 ++ (w2 ++ C)))) := by rw [hys, ← hUs, ← hVs]; simp
        have HF : ∀ M1 M2 : List α, Srt (ltB cf) M1 → Srt (ltB cf) M2 → Stb (ltB cf) (l1 ++ w1) M1 → Stb (ltB cf) (l2 ++ w2) M2 → Srt (ltB cf) (M1 ++ M2) ∧ Stb (ltB cf) (U ++ V) (M1 ++ M2) := fun M1 M2 a1 a2 a3 a4 => by
          rw [← hUs, ← hVs]; exact merge_cut o sU sV c1 c2 a1 a2 a3 a4
        have HR : s1 < m → m < en → VCalls Try.prog Z 115 [.osl bb L c, .int .i64 s1, .int .i64 m, .int .i64 en, .clo gf fs cs] (ob st bb f rest ys) (fun r s => r = .tup [] ∧ s = ob st bb f rest (A ++ (l1 ++ (w1 ++ (l2 ++ (w2 ++ C)))))) := fun k1 k2 => by
          have := rotate (Z := Z) f hok hag st bb L c rest (.clo gf fs cs) (A ++ l1) l2 w1 (w2 ++ C) s1 m en (by simp; omega) (by simp; omega) (by simp; omega) (by omega) (by omega) (by simp; omega) hm
          rw [hys']; simpa only [List.append_assoc] using this
        have HR0 : ¬ (s1 < m ∧ m < en) → ys = A ++ (l1 ++ (w1 ++ (l2 ++ (w2 ++ C)))) := fun k => by
          rw [hys']
          by_cases e : s1 < m
          · have : w1 = [] := List.eq_nil_of_length_eq_zero (by omega)
            rw [this]; simp
          · have : l2 = [] := List.eq_nil_of_length_eq_zero (by omega)
            rw [this]; simp
        have H1 : a < s1 → s1 < mid → VCalls Try.prog Z 93 [.osl bb L c, .int .i64 a, .int .i64 s1, .int .i64 mid, .clo gf fs cs] (ob st bb f rest (A ++ (l1 ++ (w1 ++ (l2 ++ (w2 ++ C)))))) (SymK f cf st bb rest A l1 w1 (l2 ++ (w2 ++ C))) := fun k1 k2 =>
          HIH.out a s1 mid A l1 w1 (l2 ++ (w2 ++ C)) ha n1 (by omega) (by omega) (by omega) sU.left sV.left (by simp; omega) (by omega)
        have H1n : ¬ (a < s1 ∧ s1 < mid) → Srt (ltB cf) (l1 ++ w1) := fun k => by
          by_cases e : a < s1
          · have : w1 = [] := List.eq_nil_of_length_eq_zero (by omega)
            rw [this, List.append_nil]; exact sU.left
          · have : l1 = [] := List.eq_nil_of_length_eq_zero (by omega)
            rw [this, List.nil_append]; exact sV.left
        have H2 : ∀ M1 : List α, l1.length + w1.length = M1.length → mid < en → en < b → VCalls Try.prog Z 93 [.osl bb L c, .int .i64 mid, .int .i64 en, .int .i64 b, .clo gf fs cs] (ob st bb f rest (A ++ (M1 ++ (l2 ++ (w2 ++ C))))) (SymK f cf st bb rest (A ++ M1) l2 w2 C) := fun M1 k0 k1 k2 => by
          have := HIH.out mid en b (A ++ M1) l2 w2 C (by simp; omega) (by omega) (by omega) (by omega) (by omega) sU.right sV.right (by simp; omega) (by omega)
          simpa only [List.append_assoc] using this
        have H2n : ¬ (mid < en ∧ en < b) → Srt (ltB cf) (l2 ++ w2) := fun k => by
          by_cases e : mid < en
          · have : w2 = [] := List.eq_nil_of_length_eq_zero (by omega)
            rw [this, List.append_nil]; exact sU.right
          · have : l2 = [] := List.eq_nil_of_length_eq_zero (by omega)
            rw [this, List.nil_append]; exact sV.right
        have kAD : s1 < m ↔ mid < en := by omega
        have kBC : m < en ↔ s1 < mid := by omega
        have HZ := Hid.mk (And.intro HF (And.intro HR (And.intro HR0 (And.intro H1 (And.intro H1n (And.intro H2 (And.intro H2n (And.intro kAD kBC))))))))
        clear hys hlen mono eu ev hu hv hn hp hmid h6 h7 hm0 hb hd hen c1 c2 hl1 hl2 hw1 hw2 hUs hVs n1 n2 n3 n4 sU sV hys' HF HR HR0 H1 H1n H2 H2n kAD kBC hbx
        by_cases kA : s1 < m
        · by_cases kB : m < en
          · by_cases k3 : a < s1
            · by_cases k6 : en < b
              · have kD : mid < en := HZ.out.2.2.2.2.2.2.2.1.1 kA
                have kC : s1 < mid := HZ.out.2.2.2.2.2.2.2.2.1 kB
                (repeat' (first | (simp (maxDischargeDepth := 16) only [*, ↓vD, vU, ↓vMd, vMu, vZ, seval, k_app, k_slc1]) | (with_reducible refine gs (fun _ => ?_) (fun _ => ?_)) | (with_reducible refine cs_ (fun _ => ?_) (fun _ => ?_)) | (with_reducible refine appK_a ?_)))
                refine callH_then (HZ.out.2.1 kA kB) ?_
                rintro _ _ ⟨rfl, rfl⟩
                (repeat' (first | (simp (maxDischargeDepth := 16) only [*, ↓vD, vU, ↓vMd, vMu, vZ, seval, k_app, k_slc1]) | (with_reducible refine gs (fun _ => ?_) (fun _ => ?_)) | (with_reducible refine cs_ (fun _ => ?_) (fun _ => ?_)) | (with_reducible refine appK_a ?_)))
                refine callH_then (HZ.out.2.2.2.1 k3 kC) ?_
                rintro _ _ ⟨rfl, M1, rfl, t1, t2⟩
                have hM1 : l1.length + w1.length = M1.length := by simpa using t2.1
                have T := Hid.mk (And.intro t1 (And.intro t2 hM1))
                clear t1 t2 hM1
                (repeat' (first | (simp (maxDischargeDepth := 16) only [*, ↓vD, vU, ↓vMd, vMu, vZ, seval, k_app, k_slc1]) | (with_reducible refine gs (fun _ => ?_) (fun _ => ?_)) | (with_reducible refine cs_ (fun _ => ?_) (fun _ => ?_)) | (with_reducible refine appK_a ?_)))
                have hH2 := HZ.out.2.2.2.2.2.1 M1 T.out.2.2 kD k6
                refine callH_then hH2 ?_
                rintro _ _ ⟨rfl, M2, rfl, t3, t4⟩
                have T2 := Hid.mk (And.intro t3 t4)
                clear t3 t4 hH2
                (repeat' (first | (simp (maxDischargeDepth := 16) only [*, ↓vD, vU, ↓vMd, vMu, vZ, seval, k_app, k_slc1]) | (with_reducible refine gs (fun _ => ?_) (fun _ => ?_)) | (with_reducible refine cs_ (fun _ => ?_) (fun _ => ?_)) | (with_reducible refine appK_a ?_)))
                exact ⟨_, St.le.refl _, rfl, M1 ++ M2, by simp, HZ.out.1 _ _ T.out.1 T2.out.1 T.out.2.1 T2.out.2⟩
              · have kD : mid < en := HZ.out.2.2.2.2.2.2.2.1.1 kA
                have kC : s1 < mid := HZ.out.2.2.2.2.2.2.2.2.1 kB
                (repeat' (first | (simp (maxDischargeDepth := 16) only [*, ↓vD, vU, ↓vMd, vMu, vZ, seval, k_app, k_slc1]) | (with_reducible refine gs (fun _ => ?_) (fun _ => ?_)) | (with_reducible refine cs_ (fun _ => ?_) (fun _ => ?_)) | (with_reducible refine appK_a ?_)))
                refine callH_then (HZ.out.2.1 kA kB) ?_
                rintro _ _ ⟨rfl, rfl⟩
                (repeat' (first | (simp (maxDischargeDepth := 16) only [*, ↓vD, vU, ↓vMd, vMu, vZ, seval, k_app, k_slc1]) | (with_reducible refine gs (fun _ => ?_) (fun _ => ?_)) | (with_reducible refine cs_ (fun _ => ?_) (fun _ => ?_)) | (with_reducible refine appK_a ?_)))
                refine callH_then (HZ.out.2.2.2.1 k3 kC) ?_
                rintro _ _ ⟨rfl, M1, rfl, t1, t2⟩
                have hM1 : l1.length + w1.length = M1.length := by simpa using t2.1
                have T := Hid.mk (And.intro t1 (And.intro t2 hM1))
                clear t1 t2 hM1
                (repeat' (first | (simp (maxDischargeDepth := 16) only [*, ↓vD, vU, ↓vMd, vMu, vZ, seval, k_app, k_slc1]) | (with_reducible refine gs (fun _ => ?_) (fun _ => ?_)) | (with_reducible refine cs_ (fun _ => ?_) (fun _ => ?_)) | (with_reducible refine appK_a ?_)))
                exact ⟨_, St.le.refl _, rfl, M1 ++ (l2 ++ w2), by simp, HZ.out.1 _ _ T.out.1 (HZ.out.2.2.2.2.2.2.1 (fun h => k6 h.2)) T.out.2.1 (Stb.refl _)⟩
            · by_cases k6 : en < b
              · have kD : mid < en := HZ.out.2.2.2.2.2.2.2.1.1 kA
                have kC : s1 < mid := HZ.out.2.2.2.2.2.2.2.2.1 kB
                (repeat' (first | (simp (maxDischargeDepth := 16) only [*, ↓vD, vU, ↓vMd, vMu, vZ, seval, k_app, k_slc1]) | (with_reducible refine gs (fun _ => ?_) (fun _ => ?_)) | (with_reducible refine cs_ (fun _ => ?_) (fun _ => ?_)) | (with_reducible refine appK_a ?_)))
                refine callH_then (HZ.out.2.1 kA kB) ?_
                rintro _ _ ⟨rfl, rfl⟩
                (repeat' (first | (simp (maxDischargeDepth := 16) only [*, ↓vD, vU, ↓vMd, vMu, vZ, seval, k_app, k_slc1]) | (with_reducible refine gs (fun _ => ?_) (fun _ => ?_)) | (with_reducible refine cs_ (fun _ => ?_) (fun _ => ?_)) | (with_reducible refine appK_a ?_)))
                have hH2 := HZ.out.2.2.2.2.2.1 (l1 ++ w1) (by simp) kD k6
                rw [List.append_assoc] at hH2
                refine callH_then hH2 ?_
                rintro _ _ ⟨rfl, M2, rfl, t3, t4⟩
                have T2 := Hid.mk (And.intro t3 t4)
                clear t3 t4 hH2
                (repeat' (first | (simp (maxDischargeDepth := 16) only [*, ↓vD, vU, ↓vMd, vMu, vZ, seval, k_app, k_slc1]) | (with_reducible refine gs (fun _ => ?_) (fun _ => ?_)) | (with_reducible refine cs_ (fun _ => ?_) (fun _ => ?_)) | (with_reducible refine appK_a ?_)))
                exact ⟨_, St.le.refl _, rfl, (l1 ++ w1) ++ M2, by simp, HZ.out.1 _ _ (HZ.out.2.2.2.2.1 (fun h => k3 h.1)) T2.out.1 (Stb.refl _) T2.out.2⟩
              · have kD : mid < en := HZ.out.2.2.2.2.2.2.2.1.1 kA
                have kC : s1 < mid := HZ.out.2.2.2.2.2.2.2.2.1 kB
                (repeat' (first | (simp (maxDischargeDepth := 16) only [*, ↓vD, vU, ↓vMd, vMu, vZ, seval, k_app, k_slc1]) | (with_reducible refine gs (fun _ => ?_) (fun _ => ?_)) | (with_reducible refine cs_ (fun _ => ?_) (fun _ => ?_)) | (with_reducible refine appK_a ?_)))
                refine callH_then (HZ.out.2.1 kA kB) ?_
                rintro _ _ ⟨rfl, rfl⟩
                (repeat' (first | (simp (maxDischargeDepth := 16) only [*, ↓vD, vU, ↓vMd, vMu, vZ, seval, k_app, k_slc1]) | (with_reducible refine gs (fun _ => ?_) (fun _ => ?_)) | (with_reducible refine cs_ (fun _ => ?_) (fun _ => ?_)) | (with_reducible refine appK_a ?_)))
                exact ⟨_, St.le.refl _, rfl, (l1 ++ w1) ++ (l2 ++ w2), by simp, HZ.out.1 _ _ (HZ.out.2.2.2.2.1 (fun h => k3 h.1)) (HZ.out.2.2.2.2.2.2.1 (fun h => k6 h.2)) (Stb.refl _) (Stb.refl _)⟩
          · by_cases k3 : a < s1
            · by_cases k6 : en < b
              · have kD : mid < en := HZ.out.2.2.2.2.2.2.2.1.1 kA
                have kC : ¬ s1 < mid := fun h => kB (HZ.out.2.2.2.2.2.2.2.2.2 h)
                rw [HZ.out.2.2.1 (fun h => kB h.2)]
                (repeat' (first | (simp (maxDischargeDepth := 16) only [*, ↓vD, vU, ↓vMd, vMu, vZ, seval, k_app, k_slc1]) | (with_reducible refine gs (fun _ => ?_) (fun _ => ?_)) | (with_reducible refine cs_ (fun _ => ?_) (fun _ => ?_)) | (with_reducible refine appK_a ?_)))
                have hH2 := HZ.out.2.2.2.2.2.1 (l1 ++ w1) (by simp) kD k6
                rw [List.append_assoc] at hH2
                refine callH_then hH2 ?_
                rintro _ _ ⟨rfl, M2, rfl, t3, t4⟩
                have T2 := Hid.mk (And.intro t3 t4)
                clear t3 t4 hH2
                (repeat' (first | (simp (maxDischargeDepth := 16) only [*, ↓vD, vU, ↓vMd, vMu, vZ, seval, k_app, k_slc1]) | (with_reducible refine gs (fun _ => ?_) (fun _ => ?_)) | (with_reducible refine cs_ (fun _ => ?_) (fun _ => ?_)) | (with_reducible refine appK_a ?_)))
                exact ⟨_, St.le.refl _, rfl, (l1 ++ w1) ++ M2, by simp, HZ.out.1 _ _ (HZ.out.2.2.2.2.1 (fun h => kC h.2)) T2.out.1 (Stb.refl _) T2.out.2⟩
              · have kD : mid < en := HZ.out.2.2.2.2.2.2.2.1.1 kA
                have kC : ¬ s1 < mid := fun h => kB (HZ.out.2.2.2.2.2.2.2.2.2 h)
                rw [HZ.out.2.2.1 (fun h => kB h.2)]
                (repeat' (first | (simp (maxDischargeDepth := 16) only [*, ↓vD, vU, ↓vMd, vMu, vZ, seval, k_app, k_slc1]) | (with_reducible refine gs (fun _ => ?_) (fun _ => ?_)) | (with_reducible refine cs_ (fun _ => ?_) (fun _ => ?_)) | (with_reducible refine appK_a ?_)))
                exact ⟨_, St.le.refl _, rfl, (l1 ++ w1) ++ (l2 ++ w2), by simp, HZ.out.1 _ _ (HZ.out.2.2.2.2.1 (fun h => kC h.2)) (HZ.out.2.2.2.2.2.2.1 (fun h => k6 h.2)) (Stb.refl _) (Stb.refl _)⟩
            · by_cases k6 : en < b
              · have kD : mid < en := HZ.out.2.2.2.2.2.2.2.1.1 kA
                have kC : ¬ s1 < mid := fun h => kB (HZ.out.2.2.2.2.2.2.2.2.2 h)
                rw [HZ.out.2.2.1 (fun h => kB h.2)]
                (repeat' (first | (simp (maxDischargeDepth := 16) only [*, ↓vD, vU, ↓vMd, vMu, vZ, seval, k_app, k_slc1]) | (with_reducible refine gs (fun _ => ?_) (fun _ => ?_)) | (with_reducible refine cs_ (fun _ => ?_) (fun _ => ?_)) | (with_reducible refine appK_a ?_)))
                have hH2 := HZ.out.2.2.2.2.2.1 (l1 ++ w1) (by simp) kD k6
                rw [List.append_assoc] at hH2
                refine callH_then hH2 ?_
                rintro _ _ ⟨rfl, M2, rfl, t3, t4⟩
                have T2 := Hid.mk (And.intro t3 t4)
                clear t3 t4 hH2
                (repeat' (first | (simp (maxDischargeDepth := 16) only [*, ↓vD, vU, ↓vMd, vMu, vZ, seval, k_app, k_slc1]) | (with_reducible refine gs (fun _ => ?_) (fun _ => ?_)) | (with_reducible refine cs_ (fun _ => ?_) (fun _ => ?_)) | (with_reducible refine appK_a ?_)))
                exact ⟨_, St.le.refl _, rfl, (l1 ++ w1) ++ M2, by simp, HZ.out.1 _ _ (HZ.out.2.2.2.2.1 (fun h => kC h.2)) T2.out.1 (Stb.refl _) T2.out.2⟩
              · have kD : mid < en := HZ.out.2.2.2.2.2.2.2.1.1 kA
                have kC : ¬ s1 < mid := fun h => kB (HZ.out.2.2.2.2.2.2.2.2.2 h)
                rw [HZ.out.2.2.1 (fun h => kB h.2)]
                (repeat' (first | (simp (maxDischargeDepth := 16) only [*, ↓vD, vU, ↓vMd, vMu, vZ, seval, k_app, k_slc1]) | (with_reducible refine gs (fun _ => ?_) (fun _ => ?_)) | (with_reducible refine cs_ (fun _ => ?_) (fun _ => ?_)) | (with_reducible refine appK_a ?_)))
                exact ⟨_, St.le.refl _, rfl, (l1 ++ w1) ++ (l2 ++ w2), by simp, HZ.out.1 _ _ (HZ.out.2.2.2.2.1 (fun h => kC h.2)) (HZ.out.2.2.2.2.2.2.1 (fun h => k6 h.2)) (Stb.refl _) (Stb.refl _)⟩
        · by_cases kB : m < en
          · by_cases k3 : a < s1
            · by_cases k6 : en < b
              · have kD : ¬ mid < en := fun h => kA (HZ.out.2.2.2.2.2.2.2.1.2 h)
                have kC : s1 < mid := HZ.out.2.2.2.2.2.2.2.2.1 kB
                rw [HZ.out.2.2.1 (fun h => kA h.1)]
                (repeat' (first | (simp (maxDischargeDepth := 16) only [*, ↓vD, vU, ↓vMd, vMu, vZ, seval, k_app, k_slc1]) | (with_reducible refine gs (fun _ => ?_) (fun _ => ?_)) | (with_reducible refine cs_ (fun _ => ?_) (fun _ => ?_)) | (with_reducible refine appK_a ?_)))
                refine callH_then (HZ.out.2.2.2.1 k3 kC) ?_
                rintro _ _ ⟨rfl, M1, rfl, t1, t2⟩
                have hM1 : l1.length + w1.length = M1.length := by simpa using t2.1
                have T := Hid.mk (And.intro t1 (And.intro t2 hM1))
                clear t1 t2 hM1
                (repeat' (first | (simp (maxDischargeDepth := 16) only [*, ↓vD, vU, ↓vMd, vMu, vZ, seval, k_app, k_slc1]) | (with_reducible refine gs (fun _ => ?_) (fun _ => ?_)) | (with_reducible refine cs_ (fun _ => ?_) (fun _ => ?_)) | (with_reducible refine appK_a ?_)))
                exact ⟨_, St.le.refl _, rfl, M1 ++ (l2 ++ w2), by simp, HZ.out.1 _ _ T.out.1 (HZ.out.2.2.2.2.2.2.1 (fun h => kD h.1)) T.out.2.1 (Stb.refl _)⟩
              · have kD : ¬ mid < en := fun h => kA (HZ.out.2.2.2.2.2.2.2.1.2 h)
                have kC : s1 < mid := HZ.out.2.2.2.2.2.2.2.2.1 kB
                rw [HZ.out.2.2.1 (fun h => kA h.1)]
                (repeat' (first | (simp (maxDischargeDepth := 16) only [*, ↓vD, vU, ↓vMd, vMu, vZ, seval, k_app, k_slc1]) | (with_reducible refine gs (fun _ => ?_) (fun _ => ?_)) | (with_reducible refine cs_ (fun _ => ?_) (fun _ => ?_)) | (with_reducible refine appK_a ?_)))
                refine callH_then (HZ.out.2.2.2.1 k3 kC) ?_
                rintro _ _ ⟨rfl, M1, rfl, t1, t2⟩
                have hM1 : l1.length + w1.length = M1.length := by simpa using t2.1
                have T := Hid.mk (And.intro t1 (And.intro t2 hM1))
                clear t1 t2 hM1
                (repeat' (first | (simp (maxDischargeDepth := 16) only [*, ↓vD, vU, ↓vMd, vMu, vZ, seval, k_app, k_slc1]) | (with_reducible refine gs (fun _ => ?_) (fun _ => ?_)) | (with_reducible refine cs_ (fun _ => ?_) (fun _ => ?_)) | (with_reducible refine appK_a ?_)))
                exact ⟨_, St.le.refl _, rfl, M1 ++ (l2 ++ w2), by simp, HZ.out.1 _ _ T.out.1 (HZ.out.2.2.2.2.2.2.1 (fun h => kD h.1)) T.out.2.1 (Stb.refl _)⟩
            · by_cases k6 : en < b
              · have kD : ¬ mid < en := fun h => kA (HZ.out.2.2.2.2.2.2.2.1.2 h)
                have kC : s1 < mid := HZ.out.2.2.2.2.2.2.2.2.1 kB
                rw [HZ.out.2.2.1 (fun h => kA h.1)]
                (repeat' (first | (simp (maxDischargeDepth := 16) only [*, ↓vD, vU, ↓vMd, vMu, vZ, seval, k_app, k_slc1]) | (with_reducible refine gs (fun _ => ?_) (fun _ => ?_)) | (with_reducible refine cs_ (fun _ => ?_) (fun _ => ?_)) | (with_reducible refine appK_a ?_)))
                exact ⟨_, St.le.refl _, rfl, (l1 ++ w1) ++ (l2 ++ w2), by simp, HZ.out.1 _ _ (HZ.out.2.2.2.2.1 (fun h => k3 h.1)) (HZ.out.2.2.2.2.2.2.1 (fun h => kD h.1)) (Stb.refl _) (Stb.refl _)⟩
              · have kD : ¬ mid < en := fun h => kA (HZ.out.2.2.2.2.2.2.2.1.2 h)
                have kC : s1 < mid := HZ.out.2.2.2.2.2.2.2.2.1 kB
                rw [HZ.out.2.2.1 (fun h => kA h.1)]
                (repeat' (first | (simp (maxDischargeDepth := 16) only [*, ↓vD, vU, ↓vMd, vMu, vZ, seval, k_app, k_slc1]) | (with_reducible refine gs (fun _ => ?_) (fun _ => ?_)) | (with_reducible refine cs_ (fun _ => ?_) (fun _ => ?_)) | (with_reducible refine appK_a ?_)))
                exact ⟨_, St.le.refl _, rfl, (l1 ++ w1) ++ (l2 ++ w2), by simp, HZ.out.1 _ _ (HZ.out.2.2.2.2.1 (fun h => k3 h.1)) (HZ.out.2.2.2.2.2.2.1 (fun h => kD h.1)) (Stb.refl _) (Stb.refl _)⟩
          · by_cases k3 : a < s1
            · by_cases k6 : en < b
              · have kD : ¬ mid < en := fun h => kA (HZ.out.2.2.2.2.2.2.2.1.2 h)
                have kC : ¬ s1 < mid := fun h => kB (HZ.out.2.2.2.2.2.2.2.2.2 h)
                rw [HZ.out.2.2.1 (fun h => kA h.1)]
                (repeat' (first | (simp (maxDischargeDepth := 16) only [*, ↓vD, vU, ↓vMd, vMu, vZ, seval, k_app, k_slc1]) | (with_reducible refine gs (fun _ => ?_) (fun _ => ?_)) | (with_reducible refine cs_ (fun _ => ?_) (fun _ => ?_)) | (with_reducible refine appK_a ?_)))
                exact ⟨_, St.le.refl _, rfl, (l1 ++ w1) ++ (l2 ++ w2), by simp, HZ.out.1 _ _ (HZ.out.2.2.2.2.1 (fun h => kC h.2)) (HZ.out.2.2.2.2.2.2.1 (fun h => kD h.1)) (Stb.refl _) (Stb.refl _)⟩
              · have kD : ¬ mid < en := fun h => kA (HZ.out.2.2.2.2.2.2.2.1.2 h)
                have kC : ¬ s1 < mid := fun h => kB (HZ.out.2.2.2.2.2.2.2.2.2 h)
                rw [HZ.out.2.2.1 (fun h => kA h.1)]
                (repeat' (first | (simp (maxDischargeDepth := 16) only [*, ↓vD, vU, ↓vMd, vMu, vZ, seval, k_app, k_slc1]) | (with_reducible refine gs (fun _ => ?_) (fun _ => ?_)) | (with_reducible refine cs_ (fun _ => ?_) (fun _ => ?_)) | (with_reducible refine appK_a ?_)))
                exact ⟨_, St.le.refl _, rfl, (l1 ++ w1) ++ (l2 ++ w2), by simp, HZ.out.1 _ _ (HZ.out.2.2.2.2.1 (fun h => kC h.2)) (HZ.out.2.2.2.2.2.2.1 (fun h => kD h.1)) (Stb.refl _) (Stb.refl _)⟩
            · by_cases k6 : en < b
              · have kD : ¬ mid < en := fun h => kA (HZ.out.2.2.2.2.2.2.2.1.2 h)
                have kC : ¬ s1 < mid := fun h => kB (HZ.out.2.2.2.2.2.2.2.2.2 h)
                rw [HZ.out.2.2.1 (fun h => kA h.1)]
                (repeat' (first | (simp (maxDischargeDepth := 16) only [*, ↓vD, vU, ↓vMd, vMu, vZ, seval, k_app, k_slc1]) | (with_reducible refine gs (fun _ => ?_) (fun _ => ?_)) | (with_reducible refine cs_ (fun _ => ?_) (fun _ => ?_)) | (with_reducible refine appK_a ?_)))
                exact ⟨_, St.le.refl _, rfl, (l1 ++ w1) ++ (l2 ++ w2), by simp, HZ.out.1 _ _ (HZ.out.2.2.2.2.1 (fun h => kC h.2)) (HZ.out.2.2.2.2.2.2.1 (fun h => kD h.1)) (Stb.refl _) (Stb.refl _)⟩
              · have kD : ¬ mid < en := fun h => kA (HZ.out.2.2.2.2.2.2.2.1.2 h)
                have kC : ¬ s1 < mid := fun h => kB (HZ.out.2.2.2.2.2.2.2.2.2 h)
                rw [HZ.out.2.2.1 (fun h => kA h.1)]
                (repeat' (first | (simp (maxDischargeDepth := 16) only [*, ↓vD, vU, ↓vMd, vMu, vZ, seval, k_app, k_slc1]) | (with_reducible refine gs (fun _ => ?_) (fun _ => ?_)) | (with_reducible refine cs_ (fun _ => ?_) (fun _ => ?_)) | (with_reducible refine appK_a ?_)))
                exact ⟨_, St.le.refl _, rfl, (l1 ++ w1) ++ (l2 ++ w2), by simp, HZ.out.1 _ _ (HZ.out.2.2.2.2.1 (fun h => kC h.2)) (HZ.out.2.2.2.2.2.2.1 (fun h => kD h.1)) (Stb.refl _) (Stb.refl _)⟩
  · have HE := Hid.mk (And.intro hE1 hE2)
    clear hE1 hE2
    (repeat' (first | (simp (maxDischargeDepth := 16) only [*, ↓vD, vU, ↓vMd, vMu, vZ, seval, k_app, k_slc1]) | (with_reducible refine gs (fun _ => ?_) (fun _ => ?_)) | (with_reducible refine cs_ (fun _ => ?_) (fun _ => ?_)) | (with_reducible refine appK_a ?_)))
    refine loopm_of (by simp only [asgL, dsts, List.cons_append, List.nil_append, List.append_nil]; rfl) (by simp only [noR, Bool.and_true, Bool.and_false]; rfl) (fun fr s => ∃ s1 r1 : Nat, s = ob st bb f rest ys ∧ fr.t 20 = .int .i64 s1 ∧ fr.t 21 = .int .i64 r1 ∧ BX (fun t => !ltB cf (ys.getD (mid + m - 1 - t) default) (ys.getD t default)) lo hi s1 r1)
      (fun fr _ => (match fr.t 21 with | .int _ n => n.toNat | _ => 0) - (match fr.t 20 with | .int _ n => n.toNat | _ => 0)) ?_ ?_
    · exact ⟨lo, hi, rfl, (by simp [↓vD, vU, ↓vMd, vMu, vZ, seval, k_app, k_slc1]; rw [HE.out.1]), (by simp [↓vD, vU, ↓vMd, vMu, vZ, seval, k_app, k_slc1]; rw [HE.out.2]), BX.start _ h5⟩
    · rintro fr s hf hdd ⟨s1, r1, rfl, h20, h21, hbx⟩
      have b1 := hbx.li
      have b2 := hbx.ij
      have b3 := hbx.jh
      by_cases hlt : s1 < r1
      · obtain ⟨n1, hh, hhh, q1, q2, q3, q4⟩ := halves s1 r1 (by omega)
        have e1 : decide ((s1 : Int) < r1) = true := by simp; omega
        obtain ⟨hys, hlen, mono, eu, ev, hu, hv, hn, hp, hmid, h6, h7, hm0, hb, hd⟩ := HY.out
        obtain ⟨pc, hpc⟩ : ∃ pc, pc + hh = p := ⟨p - hh, by omega⟩
        have q5 : IntKind.i64.wrap ((p : Int) - hh) = (pc : Int) := by rw [wrap_i64 _ (by omega) (by omega)]; omega
        have q6 := wrap_i64 ((hh : Int) + 1) (by omega) (by omega)
        have i1 : hh < ys.length := by omega
        have i2 : hh < L := by omega
        have i3 : pc < ys.length := by omega
        have i4 : pc < L := by omega
        have hidx : mid + m - 1 - hh = pc := by omega
        have hmn : ∀ p q, lo ≤ p → p ≤ q → q < hi → (fun t => !ltB cf (ys.getD (mid + m - 1 - t) default) (ys.getD t default)) q = true → (fun t => !ltB cf (ys.getD (mid + m - 1 - t) default) (ys.getD t default)) p = true := fun p q k1 k2 k3 k4 => mono p q (by omega) (by omega) k2 (by omega) (by omega) k4
        have HU := Hid.mk (And.intro (fun (hp : (!ltB cf (ys.getD pc default) (ys.getD hh default)) = true) => hbx.up hmn hhh hlt (show (!ltB cf (ys.getD (mid + m - 1 - hh) default) (ys.getD hh default)) = true by rw [hidx]; exact hp)) (fun (hp : (!ltB cf (ys.getD pc default) (ys.getD hh default)) = false) => hbx.down hmn hhh hlt (show (!ltB cf (ys.getD (mid + m - 1 - hh) default) (ys.getD hh default)) = false by rw [hidx]; exact hp)))
        have hs1 : s1 ≤ hh := by rw [hhh]; omega
        have hs2 : hh < r1 := by rw [hhh]; omega
        clear hys hlen mono eu ev hu hv hn hp hmid h6 h7 hm0 hb hd hpc hidx hmn hhh
        (repeat' (first | (simp (maxDischargeDepth := 16) only [*, ob_iad, ↓vD, vU, ↓vMd, vMu, vZ, seval, k_app, k_slc1]) | (with_reducible refine gs (fun _ => ?_) (fun _ => ?_)) | (with_reducible refine cs_ (fun _ => ?_) (fun _ => ?_)) | (with_reducible refine appK_a ?_) | (with_reducible refine callH_useC (hc _ _) (hQst _ _) ?_)))
        · rename_i hcmp
          exact ⟨_, St.le.refl _, ⟨hh + 1, r1, rfl, by simp, rfl, HU.out.1 hcmp⟩, by simp only [tn0, tn1]; exact Nat.sub_lt_sub_left hlt (Nat.lt_succ_of_le hs1)⟩
        · rename_i hcmp
          exact ⟨_, St.le.refl _, ⟨s1, hh, rfl, rfl, rfl, HU.out.2 hcmp⟩, by simp only [tn0, tn1]; omega⟩
      · have hr : r1 = s1 := by omega
        rw [hr] at hbx h21
        clear hr b1 b2 b3 hlt
        have b1 := hbx.li
        have b3 := hbx.jh
        obtain ⟨hys, hlen, mono, eu, ev, hu, hv, hn, hp, hmid, h6, h7, hm0, hb, hd⟩ := HY.out
        obtain ⟨en, hen⟩ : ∃ en, en + s1 = n := ⟨n - s1, by omega⟩
        have q1 : IntKind.i64.wrap ((n : Int) - s1) = (en : Int) := by rw [wrap_i64 _ (by omega) (by omega)]; omega
        obtain ⟨c1, c2⟩ := cut_facts o hm0 hb hmid eu ev hU hV (by omega) h7 h1 (by omega) h3 h4 (show en + s1 = mid + m by omega) hbx
        obtain ⟨l1, hl1⟩ : ∃ l1, U.take (s1 - a) = l1 := ⟨_, rfl⟩
        obtain ⟨l2, hl2⟩ : ∃ l2, U.drop (s1 - a) = l2 := ⟨_, rfl⟩
        obtain ⟨w1, hw1⟩ : ∃ w1, V.take (en - m) = w1 := ⟨_, rfl⟩
        obtain ⟨w2, hw2⟩ : ∃ w2, V.drop (en - m) = w2 := ⟨_, rfl⟩
        rw [hl1, hw2] at c1
        rw [hl2, hw1] at c2
        have hUs : l1 ++ l2 = U := by rw [← hl1, ← hl2, List.take_append_drop]
        have hVs : w1 ++ w2 = V := by rw [← hw1, ← hw2, List.take_append_drop]
        have n1 : a + l1.length = s1 := by rw [← hl1, List.length_take]; omega
        have n2 : s1 + l2.length = m := by rw [← hl2, List.length_drop]; omega
        have n3 : m + w1.length = en := by rw [← hw1, List.length_take]; omega
        have n4 : en + w2.length = b := by rw [← hw2, List.length_drop]; omega
        have sU : Srt (ltB cf) (l1 ++ l2) := by rw [hUs]; exact hU
        have sV : Srt (ltB cf) (w1 ++ w2) := by rw [hVs]; exact hV
        have hys' : ys = A ++ (l1 ++ (l2 ++ (w1 ++ (w2 ++ C)))) := by rw [hys, ← hUs, ← hVs]; simp
        have HF : ∀ M1 M2 : List α, Srt (ltB cf) M1 → Srt (ltB cf) M2 → Stb (ltB cf) (l1 ++ w1) M1 → Stb (ltB cf) (l2 ++ w2) M2 → Srt (ltB cf) (M1 ++ M2) ∧ Stb (ltB cf) (U ++ V) (M1 ++ M2) := fun M1 M2 a1 a2 a3 a4 => by
          rw [← hUs, ← hVs]; exact merge_cut o sU sV c1 c2 a1 a2 a3 a4
        have HR : s1 < m → m < en → VCalls Try.prog Z 115 [.osl bb L c, .int .i64 s1, .int .i64 m, .int .i64 en, .clo gf fs cs] (ob st bb f rest ys) (fun r s => r = .tup [] ∧ s = ob st bb f rest (A ++ (l1 ++ (w1 ++ (l2 ++ (w2 ++ C)))))) := fun k1 k2 => by
          have := rotate (Z := Z) f hok hag st bb L c rest (.clo gf fs cs) (A ++ l1) l2 w1 (w2 ++ C) s1 m en (by simp; omega) (by simp; omega) (by simp; omega) (by omega) (by omega) (by simp; omega) hm
          rw [hys']; simpa only [List.append_assoc] using this
        have HR0 : ¬ (s1 < m ∧ m < en) → ys = A ++ (l1 ++ (w1 ++ (l2 ++ (w2 ++ C)))) := fun k => by
          rw [hys']
          by_cases e : s1 < m
          · have : w1 = [] := List.eq_nil_of_length_eq_zero (by omega)
            rw [this]; simp
          · have : l2 = [] := List.eq_nil_of_length_eq_zero (by omega)
            rw [this]; simp
        have H1 : a < s1 → s1 < mid → VCalls Try.prog Z 93 [.osl bb L c, .int .i64 a, .int .i64 s1, .int .i64 mid, .clo gf fs cs] (ob st bb f rest (A ++ (l1 ++ (w1 ++ (l2 ++ (w2 ++ C)))))) (SymK f cf st bb rest A l1 w1 (l2 ++ (w2 ++ C))) := fun k1 k2 =>
          HIH.out a s1 mid A l1 w1 (l2 ++ (w2 ++ C)) ha n1 (by omega) (by omega) (by omega) sU.left sV.left (by simp; omega) (by omega)
        have H1n : ¬ (a < s1 ∧ s1 < mid) → Srt (ltB cf) (l1 ++ w1) := fun k => by
          by_cases e : a < s1
          · have : w1 = [] := List.eq_nil_of_length_eq_zero (by omega)
            rw [this, List.append_nil]; exact sU.left
          · have : l1 = [] := List.eq_nil_of_length_eq_zero (by omega)
            rw [this, List.nil_append]; exact sV.left
        have H2 : ∀ M1 : List α, l1.length + w1.length = M1.length → mid < en → en < b → VCalls Try.prog Z 93 [.osl bb L c, .int .i64 mid, .int .i64 en, .int .i64 b, .clo gf fs cs] (ob st bb f rest (A ++ (M1 ++ (l2 ++ (w2 ++ C))))) (SymK f cf st bb rest (A ++ M1) l2 w2 C) := fun M1 k0 k1 k2 => by
          have := HIH.out mid en b (A ++ M1) l2 w2 C (by simp; omega) (by omega) (by omega) (by omega) (by omega) sU.right sV.right (by simp; omega) (by omega)
          simpa only [List.append_assoc] using this
        have H2n : ¬ (mid < en ∧ en < b) → Srt (ltB cf) (l2 ++ w2) := fun k => by
          by_cases e : mid < en
          · have : w2 = [] := List.eq_nil_of_length_eq_zero (by omega)
            rw [this, List.append_nil]; exact sU.right
          · have : l2 = [] := List.eq_nil_of_length_eq_zero (by omega)
            rw [this, List.nil_append]; exact sV.right
        have kAD : s1 < m ↔ mid < en := by omega
        have kBC : m < en ↔ s1 < mid := by omega
        have HZ := Hid.mk (And.intro HF (And.intro HR (And.intro HR0 (And.intro H1 (And.intro H1n (And.intro H2 (And.intro H2n (And.intro kAD kBC))))))))
        clear hys hlen mono eu ev hu hv hn hp hmid h6 h7 hm0 hb hd hen c1 c2 hl1 hl2 hw1 hw2 hUs hVs n1 n2 n3 n4 sU sV hys' HF HR HR0 H1 H1n H2 H2n kAD kBC hbx
        by_cases kA : s1 < m
        · by_cases kB : m < en
          · by_cases k3 : a < s1
            · by_cases k6 : en < b
              · have kD : mid < en := HZ.out.2.2.2.2.2.2.2.1.1 kA
                have kC : s1 < mid := HZ.out.2.2.2.2.2.2.2.2.1 kB
                (repeat' (first | (simp (maxDischargeDepth := 16) only [*, ↓vD, vU, ↓vMd, vMu, vZ, seval, k_app, k_slc1]) | (with_reducible refine gs (fun _ => ?_) (fun _ => ?_)) | (with_reducible refine cs_ (fun _ => ?_) (fun _ => ?_)) | (with_reducible refine appK_a ?_)))
                refine callH_then (HZ.out.2.1 kA kB) ?_
                rintro _ _ ⟨rfl, rfl⟩
                (repeat' (first | (simp (maxDischargeDepth := 16) only [*, ↓vD, vU, ↓vMd, vMu, vZ, seval, k_app, k_slc1]) | (with_reducible refine gs (fun _ => ?_) (fun _ => ?_)) | (with_reducible refine cs_ (fun _ => ?_) (fun _ => ?_)) | (with_reducible refine appK_a ?_)))
                refine callH_then (HZ.out.2.2.2.1 k3 kC) ?_
                rintro _ _ ⟨rfl, M1, rfl, t1, t2⟩
                have hM1 : l1.length + w1.length = M1.length := by simpa using t2.1
                have T := Hid.mk (And.intro t1 (And.intro t2 hM1))
                clear t1 t2 hM1
                (repeat' (first | (simp (maxDischargeDepth := 16) only [*, ↓vD, vU, ↓vMd, vMu, vZ, seval, k_app, k_slc1]) | (with_reducible refine gs (fun _ => ?_) (fun _ => ?_)) | (with_reducible refine cs_ (fun _ => ?_) (fun _ => ?_)) | (with_reducible refine appK_a ?_)))
                have hH2 := HZ.out.2.2.2.2.2.1 M1 T.out.2.2 kD k6
                refine callH_then hH2 ?_
                rintro _ _ ⟨rfl, M2, rfl, t3, t4⟩
                have T2 := Hid.mk (And.intro t3 t4)
                clear t3 t4 hH2
                (repeat' (first | (simp (maxDischargeDepth := 16) only [*, ↓vD, vU, ↓vMd, vMu, vZ, seval, k_app, k_slc1]) | (with_reducible refine gs (fun _ => ?_) (fun _ => ?_)) | (with_reducible refine cs_ (fun _ => ?_) (fun _ => ?_)) | (with_reducible refine appK_a ?_)))
                exact ⟨_, St.le.refl _, rfl, M1 ++ M2, by simp, HZ.out.1 _ _ T.out.1 T2.out.1 T.out.2.1 T2.out.2⟩
              · have kD : mid < en := HZ.out.2.2.2.2.2.2.2.1.1 kA
                have kC : s1 < mid := HZ.out.2.2.2.2.2.2.2.2.1 kB
                (repeat' (first | (simp (maxDischargeDepth := 16) only [*, ↓vD, vU, ↓vMd, vMu, vZ, seval, k_app, k_slc1]) | (with_reducible refine gs (fun _ => ?_) (fun _ => ?_)) | (with_reducible refine cs_ (fun _ => ?_) (fun _ => ?_)) | (with_reducible refine appK_a ?_)))
                refine callH_then (HZ.out.2.1 kA kB) ?_
                rintro _ _ ⟨rfl, rfl⟩
                (repeat' (first | (simp (maxDischargeDepth := 16) only [*, ↓vD, vU, ↓vMd, vMu, vZ, seval, k_app, k_slc1]) | (with_reducible refine gs (fun _ => ?_) (fun _ => ?_)) | (with_reducible refine cs_ (fun _ => ?_) (fun _ => ?_)) | (with_reducible refine appK_a ?_)))
                refine callH_then (HZ.out.2.2.2.1 k3 kC) ?_
                rintro _ _ ⟨rfl, M1, rfl, t1, t2⟩
                have hM1 : l1.length + w1.length = M1.length := by simpa using t2.1
                have T := Hid.mk (And.intro t1 (And.intro t2 hM1))
                clear t1 t2 hM1
                (repeat' (first | (simp (maxDischargeDepth := 16) only [*, ↓vD, vU, ↓vMd, vMu, vZ, seval, k_app, k_slc1]) | (with_reducible refine gs (fun _ => ?_) (fun _ => ?_)) | (with_reducible refine cs_ (fun _ => ?_) (fun _ => ?_)) | (with_reducible refine appK_a ?_)))
                exact ⟨_, St.le.refl _, rfl, M1 ++ (l2 ++ w2), by simp, HZ.out.1 _ _ T.out.1 (HZ.out.2.2.2.2.2.2.1 (fun h => k6 h.2)) T.out.2.1 (Stb.refl _)⟩
            · by_cases k6 : en < b
              · have kD : mid < en := HZ.out.2.2.2.2.2.2.2.1.1 kA
                have kC : s1 < mid := HZ.out.2.2.2.2.2.2.2.2.1 kB
                (repeat' (first | (simp (maxDischargeDepth := 16) only [*, ↓vD, vU, ↓vMd, vMu, vZ, seval, k_app, k_slc1]) | (with_reducible refine gs (fun _ => ?_) (fun _ => ?_)) | (with_reducible refine cs_ (fun _ => ?_) (fun _ => ?_)) | (with_reducible refine appK_a ?_)))
                refine callH_then (HZ.out.2.1 kA kB) ?_
                rintro _ _ ⟨rfl, rfl⟩
                (repeat' (first | (simp (maxDischargeDepth := 16) only [*, ↓vD, vU, ↓vMd, vMu, vZ, seval, k_app, k_slc1]) | (with_reducible refine gs (fun _ => ?_) (fun _ => ?_)) | (with_reducible refine cs_ (fun _ => ?_) (fun _ => ?_)) | (with_reducible refine appK_a ?_)))
                have hH2 := HZ.out.2.2.2.2.2.1 (l1 ++ w1) (by simp) kD k6
                rw [List.append_assoc] at hH2
                refine callH_then hH2 ?_
                rintro _ _ ⟨rfl, M2, rfl, t3, t4⟩
                have T2 := Hid.mk (And.intro t3 t4)
                clear t3 t4 hH2
                (repeat' (first | (simp (maxDischargeDepth := 16) only [*, ↓vD, vU, ↓vMd, vMu, vZ, seval, k_app, k_slc1]) | (with_reducible refine gs (fun _ => ?_) (fun _ => ?_)) | (with_reducible refine cs_ (fun _ => ?_) (fun _ => ?_)) | (with_reducible refine appK_a ?_)))
                exact ⟨_, St.le.refl _, rfl, (l1 ++ w1) ++ M2, by simp, HZ.out.1 _ _ (HZ.out.2.2.2.2.1 (fun h => k3 h.1)) T2.out.1 (Stb.refl _) T2.out.2⟩
              · have kD : mid < en := HZ.out.2.2.2.2.2.2.2.1.1 kA
                have kC : s1 < mid := HZ.out.2.2.2.2.2.2.2.2.1 kB
                (repeat' (first | (simp (maxDischargeDepth := 16) only [*, ↓vD, vU, ↓vMd, vMu, vZ, seval, k_app, k_slc1]) | (with_reducible refine gs (fun _ => ?_) (fun _ => ?_)) | (with_reducible refine cs_ (fun _ => ?_) (fun _ => ?_)) | (with_reducible refine appK_a ?_)))
                refine callH_then (HZ.out.2.1 kA kB) ?_
                rintro _ _ ⟨rfl, rfl⟩
                (repeat' (first | (simp (maxDischargeDepth := 16) only [*, ↓vD, vU, ↓vMd, vMu, vZ, seval, k_app, k_slc1]) | (with_reducible refine gs (fun _ => ?_) (fun _ => ?_)) | (with_reducible refine cs_ (fun _ => ?_) (fun _ => ?_)) | (with_reducible refine appK_a ?_)))
                exact ⟨_, St.le.refl _, rfl, (l1 ++ w1) ++ (l2 ++ w2), by simp, HZ.out.1 _ _ (HZ.out.2.2.2.2.1 (fun h => k3 h.1)) (HZ.out.2.2.2.2.2.2.1 (fun h => k6 h.2)) (Stb.refl _) (Stb.refl _)⟩
          · by_cases k3 : a < s1
            · by_cases k6 : en < b
              · have kD : mid < en := HZ.out.2.2.2.2.2.2.2.1.1 kA
                have kC : ¬ s1 < mid := fun h => kB (HZ.out.2.2.2.2.2.2.2.2.2 h)
                rw [HZ.out.2.2.1 (fun h => kB h.2)]
                (repeat' (first | (simp (maxDischargeDepth := 16) only [*, ↓vD, vU, ↓vMd, vMu, vZ, seval, k_app, k_slc1]) | (with_reducible refine gs (fun _ => ?_) (fun _ => ?_)) | (with_reducible refine cs_ (fun _ => ?_) (fun _ => ?_)) | (with_reducible refine appK_a ?_)))
                have hH2 := HZ.out.2.2.2.2.2.1 (l1 ++ w1) (by simp) kD k6
                rw [List.append_assoc] at hH2
                refine callH_then hH2 ?_
                rintro _ _ ⟨rfl, M2, rfl, t3, t4⟩
                have T2 := Hid.mk (And.intro t3 t4)
                clear t3 t4 hH2
                (repeat' (first | (simp (maxDischargeDepth := 16) only [*, ↓vD, vU, ↓vMd, vMu, vZ, seval, k_app, k_slc1]) | (with_reducible refine gs (fun _ => ?_) (fun _ => ?_)) | (with_reducible refine cs_ (fun _ => ?_) (fun _ => ?_)) | (with_reducible refine appK_a ?_)))
                exact ⟨_, St.le.refl _, rfl, (l1 ++ w1) ++ M2, by simp, HZ.out.1 _ _ (HZ.out.2.2.2.2.1 (fun h => kC h.2)) T2.out.1 (Stb.refl _) T2.out.2⟩
              · have kD : mid < en := HZ.out.2.2.2.2.2.2.2.1.1 kA
                have kC : ¬ s1 < mid := fun h => kB (HZ.out.2.2.2.2.2.2.2.2.2 h)
                rw [HZ.out.2.2.1 (fun h => kB h.2)]
                (repeat' (first | (simp (maxDischargeDepth := 16) only [*, ↓vD, vU, ↓vMd, vMu, vZ, seval, k_app, k_slc1]) | (with_reducible refine gs (fun _ => ?_) (fun _ => ?_)) | (with_reducible refine cs_ (fun _ => ?_) (fun _ => ?_)) | (with_reducible refine appK_a ?_)))
                exact ⟨_, St.le.refl _, rfl, (l1 ++ w1) ++ (l2 ++ w2), by simp, HZ.out.1 _ _ (HZ.out.2.2.2.2.1 (fun h => kC h.2)) (HZ.out.2.2.2.2.2.2.1 (fun h => k6 h.2)) (Stb.refl _) (Stb.refl _)⟩
            · by_cases k6 : en < b
              · have kD : mid < en := HZ.out.2.2.2.2.2.2.2.1.1 kA
                have kC : ¬ s1 < mid := fun h => kB (HZ.out.2.2.2.2.2.2.2.2.2 h)
                rw [HZ.out.2.2.1 (fun h => kB h.2)]
                (repeat' (first | (simp (maxDischargeDepth := 16) only [*, ↓vD, vU, ↓vMd, vMu, vZ, seval, k_app, k_slc1]) | (with_reducible refine gs (fun _ => ?_) (fun _ => ?_)) | (with_reducible refine cs_ (fun _ => ?_) (fun _ => ?_)) | (with_reducible refine appK_a ?_)))
                have hH2 := HZ.out.2.2.2.2.2.1 (l1 ++ w1) (by simp) kD k6
                rw [List.append_assoc] at hH2
                refine callH_then hH2 ?_
                rintro _ _ ⟨rfl, M2, rfl, t3, t4⟩
                have T2 := Hid.mk (And.intro t3 t4)
                clear t3 t4 hH2
                (repeat' (first | (simp (maxDischargeDepth := 16) only [*, ↓vD, vU, ↓vMd, vMu, vZ, seval, k_app, k_slc1]) | (with_reducible refine gs (fun _ => ?_) (fun _ => ?_)) | (with_reducible refine cs_ (fun _ => ?_) (fun _ => ?_)) | (with_reducible refine appK_a ?_)))
                exact ⟨_, St.le.refl _, rfl, (l1 ++ w1) ++ M2, by simp, HZ.out.1 _ _ (HZ.out.2.2.2.2.1 (fun h => kC h.2)) T2.out.1 (Stb.refl _) T2.out.2⟩
              · have kD : mid < en := HZ.out.2.2.2.2.2.2.2.1.1 kA
                have kC : ¬ s1 < mid := fun h => kB (HZ.out.2.2.2.2.2.2.2.2.2 h)
                rw [HZ.out.2.2.1 (fun h => kB h.2)]
                (repeat' (first | (simp (maxDischargeDepth := 16) only [*, ↓vD, vU, ↓vMd, vMu, vZ, seval, k_app, k_slc1]) | (with_reducible refine gs (fun _ => ?_) (fun _ => ?_)) | (with_reducible refine cs_ (fun _ => ?_) (fun _ => ?_)) | (with_reducible refine appK_a ?_)))
                exact ⟨_, St.le.refl _, rfl, (l1 ++ w1) ++ (l2 ++ w2), by simp, HZ.out.1 _ _ (HZ.out.2.2.2.2.1 (fun h => kC h.2)) (HZ.out.2.2.2.2.2.2.1 (fun h => k6 h.2)) (Stb.refl _) (Stb.refl _)⟩
        · by_cases kB : m < en
          · by_cases k3 : a < s1
            · by_cases k6 : en < b
              · have kD : ¬ mid < en := fun h => kA (HZ.out.2.2.2.2.2.2.2.1.2 h)
                have kC : s1 < mid := HZ.out.2.2.2.2.2.2.2.2.1 kB
                rw [HZ.out.2.2.1 (fun h => kA h.1)]
                (repeat' (first | (simp (maxDischargeDepth := 16) only [*, ↓vD, vU, ↓vMd, vMu, vZ, seval, k_app, k_slc1]) | (with_reducible refine gs (fun _ => ?_) (fun _ => ?_)) | (with_reducible refine cs_ (fun _ => ?_) (fun _ => ?_)) | (with_reducible refine appK_a ?_)))
                refine callH_then (HZ.out.2.2.2.1 k3 kC) ?_
                rintro _ _ ⟨rfl, M1, rfl, t1, t2⟩
                have hM1 : l1.length + w1.length = M1.length := by simpa using t2.1
                have T := Hid.mk (And.intro t1 (And.intro t2 hM1))
                clear t1 t2 hM1
                (repeat' (first | (simp (maxDischargeDepth := 16) only [*, ↓vD, vU, ↓vMd, vMu, vZ, seval, k_app, k_slc1]) | (with_reducible refine gs (fun _ => ?_) (fun _ => ?_)) | (with_reducible refine cs_ (fun _ => ?_) (fun _ => ?_)) | (with_reducible refine appK_a ?_)))
                exact ⟨_, St.le.refl _, rfl, M1 ++ (l2 ++ w2), by simp, HZ.out.1 _ _ T.out.1 (HZ.out.2.2.2.2.2.2.1 (fun h => kD h.1)) T.out.2.1 (Stb.refl _)⟩
              · have kD : ¬ mid < en := fun h => kA (HZ.out.2.2.2.2.2.2.2.1.2 h)
                have kC : s1 < mid := HZ.out.2.2.2.2.2.2.2.2.1 kB
                rw [HZ.out.2.2.1 (fun h => kA h.1)]
                (repeat' (first | (simp (maxDischargeDepth := 16) only [*, ↓vD, vU, ↓vMd, vMu, vZ, seval, k_app, k_slc1]) | (with_reducible refine gs (fun _ => ?_) (fun _ => ?_)) | (with_reducible refine cs_ (fun _ => ?_) (fun _ => ?_)) | (with_reducible refine appK_a ?_)))
                refine callH_then (HZ.out.2.2.2.1 k3 kC) ?_
                rintro _ _ ⟨rfl, M1, rfl, t1, t2⟩
                have hM1 : l1.length + w1.length = M1.length := by simpa using t2.1
                have T := Hid.mk (And.intro t1 (And.intro t2 hM1))
                clear t1 t2 hM1
                (repeat' (first | (simp (maxDischargeDepth := 16) only [*, ↓vD, vU, ↓vMd, vMu, vZ, seval, k_app, k_slc1]) | (with_reducible refine gs (fun _ => ?_) (fun _ => ?_)) | (with_reducible refine cs_ (fun _ => ?_) (fun _ => ?_)) | (with_reducible refine appK_a ?_)))
                exact ⟨_, St.le.refl _, rfl, M1 ++ (l2 ++ w2), by simp, HZ.out.1 _ _ T.out.1 (HZ.out.2.2.2.2.2.2.1 (fun h => kD h.1)) T.out.2.1 (Stb.refl _)⟩
            · by_cases k6 : en < b
              · have kD : ¬ mid < en := fun h => kA (HZ.out.2.2.2.2.2.2.2.1.2 h)
                have kC : s1 < mid := HZ.out.2.2.2.2.2.2.2.2.1 kB
                rw [HZ.out.2.2.1 (fun h => kA h.1)]
                (repeat' (first | (simp (maxDischargeDepth := 16) only [*, ↓vD, vU, ↓vMd, vMu, vZ, seval, k_app, k_slc1]) | (with_reducible refine gs (fun _ => ?_) (fun _ => ?_)) | (with_reducible refine cs_ (fun _ => ?_) (fun _ => ?_)) | (with_reducible refine appK_a ?_)))
                exact ⟨_, St.le.refl _, rfl, (l1 ++ w1) ++ (l2 ++ w2), by simp, HZ.out.1 _ _ (HZ.out.2.2.2.2.1 (fun h => k3 h.1)) (HZ.out.2.2.2.2.2.2.1 (fun h => kD h.1)) (Stb.refl _) (Stb.refl _)⟩
              · have kD : ¬ mid < en := fun h => kA (HZ.out.2.2.2.2.2.2.2.1.2 h)
                have kC : s1 < mid := HZ.out.2.2.2.2.2.2.2.2.1 kB
                rw [HZ.out.2.2.1 (fun h => kA h.1)]
                (repeat' (first | (simp (maxDischargeDepth := 16) only [*, ↓vD, vU, ↓vMd, vMu, vZ, seval, k_app, k_slc1]) | (with_reducible refine gs (fun _ => ?_) (fun _ => ?_)) | (with_reducible refine cs_ (fun _ => ?_) (fun _ => ?_)) | (with_reducible refine appK_a ?_)))
                exact ⟨_, St.le.refl _, rfl, (l1 ++ w1) ++ (l2 ++ w2), by simp, HZ.out.1 _ _ (HZ.out.2.2.2.2.1 (fun h => k3 h.1)) (HZ.out.2.2.2.2.2.2.1 (fun h => kD h.1)) (Stb.refl _) (Stb.refl _)⟩
          · by_cases k3 : a < s1
            · by_cases k6 : en < b
              · have kD : ¬ mid < en := fun h => kA (HZ.out.2.2.2.2.2.2.2.1.2 h)
                have kC : ¬ s1 < mid := fun h => kB (HZ.out.2.2.2.2.2.2.2.2.2 h)
                rw [HZ.out.2.2.1 (fun h => kA h.1)]
                (repeat' (first | (simp (maxDischargeDepth := 16) only [*, ↓vD, vU, ↓vMd, vMu, vZ, seval, k_app, k_slc1]) | (with_reducible refine gs (fun _ => ?_) (fun _ => ?_)) | (with_reducible refine cs_ (fun _ => ?_) (fun _ => ?_)) | (with_reducible refine appK_a ?_)))
                exact ⟨_, St.le.refl _, rfl, (l1 ++ w1) ++ (l2 ++ w2), by simp, HZ.out.1 _ _ (HZ.out.2.2.2.2.1 (fun h => kC h.2)) (HZ.out.2.2.2.2.2.2.1 (fun h => kD h.1)) (Stb.refl _) (Stb.refl _)⟩
              · have kD : ¬ mid < en := fun h => kA (HZ.out.2.2.2.2.2.2.2.1.2 h)
                have kC : ¬ s1 < mid := fun h => kB (HZ.out.2.2.2.2.2.2.2.2.2 h)
                rw [HZ.out.2.2.1 (fun h => kA h.1)]
                (repeat' (first | (simp (maxDischargeDepth := 16) only [*, ↓vD, vU, ↓vMd, vMu, vZ, seval, k_app, k_slc1]) | (with_reducible refine gs (fun _ => ?_) (fun _ => ?_)) | (with_reducible refine cs_ (fun _ => ?_) (fun _ => ?_)) | (with_reducible refine appK_a ?_)))
                exact ⟨_, St.le.refl _, rfl, (l1 ++ w1) ++ (l2 ++ w2), by simp, HZ.out.1 _ _ (HZ.out.2.2.2.2.1 (fun h => kC h.2)) (HZ.out.2.2.2.2.2.2.1 (fun h => kD h.1)) (Stb.refl _) (Stb.refl _)⟩
            · by_cases k6 : en < b
              · have kD : ¬ mid < en := fun h => kA (HZ.out.2.2.2.2.2.2.2.1.2 h)
                have kC : ¬ s1 < mid := fun h => kB (HZ.out.2.2.2.2.2.2.2.2.2 h)
                rw [HZ.out.2.2.1 (fun h => kA h.1)]
                (repeat' (first | (simp (maxDischargeDepth := 16) only [*, ↓vD, vU, ↓vMd, vMu, vZ, seval, k_app, k_slc1]) | (with_reducible refine gs (fun _ => ?_) (fun _ => ?_)) | (with_reducible refine cs_ (fun _ => ?_) (fun _ => ?_)) | (with_reducible refine appK_a ?_)))
                exact ⟨_, St.le.refl _, rfl, (l1 ++ w1) ++ (l2 ++ w2), by simp, HZ.out.1 _ _ (HZ.out.2.2.2.2.1 (fun h => kC h.2)) (HZ.out.2.2.2.2.2.2.1 (fun h => kD h.1)) (Stb.refl _) (Stb.refl _)⟩
              · have kD : ¬ mid < en := fun h => kA (HZ.out.2.2.2.2.2.2.2.1.2 h)
                have kC : ¬ s1 < mid := fun h => kB (HZ.out.2.2.2.2.2.2.2.2.2 h)
                rw [HZ.out.2.2.1 (fun h => kA h.1)]
                (repeat' (first | (simp (maxDischargeDepth := 16) only [*, ↓vD, vU, ↓vMd, vMu, vZ, seval, k_app, k_slc1]) | (with_reducible refine gs (fun _ => ?_) (fun _ => ?_)) | (with_reducible refine cs_ (fun _ => ?_) (fun _ => ?_)) | (with_reducible refine appK_a ?_)))
                exact ⟨_, St.le.refl _, rfl, (l1 ++ w1) ++ (l2 ++ w2), by simp, HZ.out.1 _ _ (HZ.out.2.2.2.2.1 (fun h => kC h.2)) (HZ.out.2.2.2.2.2.2.1 (fun h => kD h.1)) (Stb.refl _) (Stb.refl _)⟩
end Go.Proofs.Ytglekfgoadehbaa.V.SoI64
end
section
set_option linter.unusedSimpArgs false
set_option linter.unusedVariables false
/- slices.SortStableFunc at int64: the merge, the whole. -/
namespace Go.Proofs.Ytglekfgoadehbaa.V.SoI64
open Go Go.Proofs Go.Proofs.Ytglekfgoadehbaa.SP
set_option maxRecDepth 100000
variable {α : Type} [Inhabited α] {Z : Im}
theorem symMerge (f : α → AV) (hok : ∀ x, okEl 1 (f x) = true) (hag : ∀ x, (f x).cells = [f x]) {gf : Nat} {fs cs : List AV} (cf : α → α → Int) (o : SWO (ltB cf)) {Q : St → Prop} (hc : ∀ x y (Y : Im) (s : St), Q s → VCalls Try.prog Y gf (fs ++ [f x, f y] ++ cs) s (fun r s' => r = .int .i64 (cf x y) ∧ s' = s))
    (st : St) (bb L c : Nat) (hQst : ∀ (rest : List AV) (xs : List α), Q (ob st bb f rest xs)) (rest : List AV) (hm : L ≤ 1000000000) : ∀ (d : Nat) (a m b : Nat) (A U V C : List α), A.length = a → a + U.length = m → m + V.length = b → 0 < U.length → 0 < V.length → Srt (ltB cf) U → Srt (ltB cf) V → (A ++ (U ++ (V ++ C))).length = L → U.length + V.length ≤ d →
      VCalls Try.prog Z 93 [.osl bb L c, .int .i64 a, .int .i64 m, .int .i64 b, .clo gf fs cs] (ob st bb f rest (A ++ (U ++ (V ++ C)))) (SymK f cf st bb rest A U V C)
  | 0, _, _, _, _, _, _, _, _, _, _, hU, _, _, _, _, hd => by omega
  | d + 1, a, m, b, A, U, V, C, ha, hm0, hb, hU, hV, sU, sV, hL, hd => by
    by_cases h1 : U.length = 1
    · obtain ⟨x, rfl⟩ := List.length_eq_one_iff.1 h1
      exact sym_left f hok hag cf o hc st bb L c hQst rest A V C x a m b ha (by simpa using hm0) hb hV sV hL hm
    · by_cases h2 : V.length = 1
      · obtain ⟨y, rfl⟩ := List.length_eq_one_iff.1 h2
        exact sym_right f hok hag cf o hc st bb L c hQst rest A U C y a m b ha hm0 (by simpa using hb) (by omega) sU hL hm
      · exact sym_mid f hok hag cf o hc st bb L c hQst rest d (symMerge f hok hag cf o hc st bb L c hQst rest hm d) A U V C a m b ha hm0 hb (by omega) (by omega) sU sV hL hm (by omega)
set_option maxHeartbeats 4000000 in
theorem stable (f : α → AV) (hok : ∀ x, okEl 1 (f x) = true) (hag : ∀ x, (f x).cells = [f x]) {gf : Nat} {fs cs : List AV} (cf : α → α → Int) (o : SWO (ltB cf)) {Q : St → Prop} (hc : ∀ x y (Y : Im) (s : St), Q s → VCalls Try.prog Y gf (fs ++ [f x, f y] ++ cs) s (fun r s' => r = .int .i64 (cf x y) ∧ s' = s))
    (st : St) (bb L c : Nat) (hQst : ∀ (rest : List AV) (xs : List α), Q (ob st bb f rest xs)) (rest : List AV) (xs : List α) (hL : xs.length = L) (hm : L ≤ 1000000000) :
    VCalls Try.prog Z 68 [.osl bb L c, .int .i64 L, .clo gf fs cs] (ob st bb f rest xs) (fun r s => r = .tup [] ∧ s = ob st bb f rest (sortS (ltB cf) xs)) := by
  refine VCalls.of v_slices_stableCmpFunc_int64_ok (Nat.le_of_ble_eq_true rfl) ?_
  simp only [v_slices_stableCmpFunc_int64, ↓vD, vU, ↓vMd, vMu, vZ, seval, k_app, k_slc1]
  refine loopm_of (by simp only [asgL, dsts, List.cons_append, List.nil_append, List.append_nil]; rfl) (by simp only [noR, Bool.and_true, Bool.and_false]; rfl) (fun fr s => ∃ (a b : Nat) (D R : List α), fr.t 7 = .int .i64 a ∧ fr.t 8 = .int .i64 b ∧ s = ob st bb f rest (D ++ R) ∧ a + 20 = b ∧ D.length = a ∧ Full (ltB cf) 20 D ∧ Stb (ltB cf) xs (D ++ R)) (fun fr _ => L - (match fr.t 7 with | .int _ n => n.toNat | _ => 0)) ?_ ?_
  · exact ⟨0, 20, [], xs, by simp [↓vD, vU, ↓vMd, vMu, vZ, seval, k_app, k_slc1], by simp [↓vD, vU, ↓vMd, vMu, vZ, seval, k_app, k_slc1], rfl, rfl, rfl, Full.nil 20, Stb.refl _⟩
  · rintro fr s hf hd ⟨a, b, D, R, h7, h8, rfl, hab, hD, hF, hS⟩
    have hlen : a + R.length = L := by have := hS.1; simp at this; omega
    by_cases hlt : b ≤ L
    · have hR20 : 20 ≤ R.length := by omega
      have w1 : IntKind.i64.wrap ((b : Int) + 20) = ((b + 20 : Nat) : Int) := by rw [wrap_i64 _ (by omega) (by omega)]; omega
      have hins := insertion (Z := Z) f hok hag cf o hc st bb L c hQst rest D (R.take 20) (R.drop 20) a b hD (by simp; omega) (by rw [List.take_append_drop]; simp; omega) hm
      rw [List.take_append_drop] at hins
      (repeat' (first | (simp (maxDischargeDepth := 16) only [*, ↓vD, vU, ↓vMd, vMu, vZ, seval, k_app, k_slc1]) | (with_reducible refine gs (fun _ => ?_) (fun _ => ?_)) | (with_reducible refine cs_ (fun _ => ?_) (fun _ => ?_)) | (with_reducible refine appK_a ?_)))
      refine callH_then hins ?_
      rintro _ _ ⟨rfl, M, rfl, hs, hk⟩
      have hl := hk.1
      (repeat' (first | (simp (maxDischargeDepth := 16) only [*, ↓vD, vU, ↓vMd, vMu, vZ, seval, k_app, k_slc1]) | (with_reducible refine gs (fun _ => ?_) (fun _ => ?_)) | (with_reducible refine cs_ (fun _ => ?_) (fun _ => ?_)) | (with_reducible refine appK_a ?_)))
      refine ⟨_, St.le.refl _, ⟨b, b + 20, D ++ M, R.drop 20, rfl, by omega, by rw [List.append_assoc], rfl, by have := hk.1; simp at this ⊢; omega, hF.snoc (by have := hk.1; simp at this; omega) hs, ?_⟩, by simp only [tn0]; omega⟩
      refine hS.trans ?_
      rw [List.append_assoc]
      refine Stb.append (Stb.refl _) ?_
      have h2 := Stb.append hk (Stb.refl (lt := ltB cf) (R.drop 20))
      rwa [List.take_append_drop] at h2
    · have hins := insertion (Z := Z) f hok hag cf o hc st bb L c hQst rest D R [] a L hD (by omega) (by simp; omega) hm
      rw [List.append_nil] at hins
      (repeat' (first | (simp (maxDischargeDepth := 16) only [*, ↓vD, vU, ↓vMd, vMu, vZ, seval, k_app, k_slc1]) | (with_reducible refine gs (fun _ => ?_) (fun _ => ?_)) | (with_reducible refine cs_ (fun _ => ?_) (fun _ => ?_)) | (with_reducible refine appK_a ?_)))
      refine callH_then hins ?_
      rintro _ _ ⟨rfl, M, rfl, hs, hk⟩
      have hl := hk.1
      have HB : Hid (∃ ys, D ++ (M ++ []) = ys ∧ Bk (ltB cf) 20 ys ∧ Stb (ltB cf) xs ys) := ⟨⟨D ++ M, by simp, hF _ (Bk.last M hs (by omega)), hS.trans (Stb.append (Stb.refl _) hk)⟩⟩
      clear hs hk hl hins hF hS hD hlen hlt hab
      (repeat' (first | (simp (maxDischargeDepth := 16) only [*, ↓vD, vU, ↓vMd, vMu, vZ, seval, k_app, k_slc1]) | (with_reducible refine gs (fun _ => ?_) (fun _ => ?_)) | (with_reducible refine cs_ (fun _ => ?_) (fun _ => ?_)) | (with_reducible refine appK_a ?_)))
      refine loopm_of (by simp only [asgL, dsts, List.cons_append, List.nil_append, List.append_nil]; rfl) (by simp only [noR, Bool.and_true, Bool.and_false]; rfl) (fun fr2 s => ∃ (z : Nat) (ys : List α), fr2.t 6 = .int .i64 z ∧ s = ob st bb f rest ys ∧ 20 ≤ z ∧ z ≤ 2000000000 ∧ Bk (ltB cf) z ys ∧ Stb (ltB cf) xs ys) (fun fr2 _ => L - (match fr2.t 6 with | .int _ n => n.toNat | _ => 0)) ?_ ?_
      · obtain ⟨ys, h1, h2, h3⟩ := HB.out
        exact ⟨20, ys, by simp [↓vD, vU, ↓vMd, vMu, vZ, seval, k_app, k_slc1, hf], by rw [← h1]; simp, by omega, by omega, h2, h3⟩
      · rintro fr2 s hf2 hd2 ⟨z, ys, h6, rfl, hz1, hz2, hB, hS⟩
        have hyl : ys.length = L := by have := hS.1; omega
        by_cases hzl : z < L
        · obtain ⟨z2, hz⟩ : ∃ z2, 2 * z = z2 := ⟨_, rfl⟩
          have w1 : IntKind.i64.wrap (2 * (z : Int)) = (z2 : Int) := by rw [wrap_i64 _ (by omega) (by omega)]; omega
          have w2 : IntKind.i64.wrap ((z : Int) * 2) = (z2 : Int) := by rw [wrap_i64 _ (by omega) (by omega)]; omega
          (repeat' (first | (simp (maxDischargeDepth := 16) only [*, ↓vD, vU, ↓vMd, vMu, vZ, seval, k_app, k_slc1]) | (with_reducible refine gs (fun _ => ?_) (fun _ => ?_)) | (with_reducible refine cs_ (fun _ => ?_) (fun _ => ?_)) | (with_reducible refine appK_a ?_)))
          refine loopm_of (by simp only [asgL, dsts, List.cons_append, List.nil_append, List.append_nil]; rfl) (by simp only [noR, Bool.and_true, Bool.and_false]; rfl) (fun fr3 s => ∃ (a b : Nat) (E R : List α), fr3.t 7 = .int .i64 a ∧ fr3.t 8 = .int .i64 b ∧ s = ob st bb f rest (E ++ R) ∧ a + z2 = b ∧ E.length = a ∧ Full (ltB cf) z2 E ∧ Bk (ltB cf) z R ∧ Stb (ltB cf) xs (E ++ R)) (fun fr3 _ => L - (match fr3.t 7 with | .int _ n => n.toNat | _ => 0)) ?_ ?_
          · exact ⟨0, z2, [], ys, by simp [↓vD, vU, ↓vMd, vMu, vZ, seval, k_app, k_slc1], by simp [↓vD, vU, ↓vMd, vMu, vZ, seval, k_app, k_slc1], rfl, by omega, rfl, Full.nil _, hB, hS⟩
          · rintro fr3 s hf3 hd3 ⟨a, b, E, R, h7, h8, rfl, hab, hE, hF, hBR, hSE⟩
            have hlen : a + R.length = L := by have := hSE.1; simp at this; omega
            obtain ⟨mm, hmm⟩ : ∃ mm, a + z = mm := ⟨_, rfl⟩
            have w3 : IntKind.i64.wrap ((a : Int) + z) = (mm : Int) := by rw [wrap_i64 _ (by omega) (by omega)]; omega
            by_cases hlt : b ≤ L
            · obtain ⟨b2, hb2⟩ : ∃ b2, b + z2 = b2 := ⟨_, rfl⟩
              have w4 : IntKind.i64.wrap ((b : Int) + z2) = (b2 : Int) := by rw [wrap_i64 _ (by omega) (by omega)]; omega
              obtain ⟨U, V, R2, hRR, hU, hV, sU, sV, hB2⟩ := hBR.two (by omega)
              subst hRR
              have hsm := symMerge (Z := Z) f hok hag cf o hc st bb L c hQst rest hm _ a mm b E U V R2 hE (by omega) (by omega) (by omega) (by omega) sU sV (by simp at hlen ⊢; omega) (Nat.le_refl _)
              have H := Hid.mk (And.intro hU (And.intro hV (And.intro hlen (And.intro hmm hb2))))
              clear hU hV hlen hmm hb2
              (repeat' (first | (simp (maxDischargeDepth := 16) only [*, ↓vD, vU, ↓vMd, vMu, vZ, seval, k_app, k_slc1]) | (with_reducible refine gs (fun _ => ?_) (fun _ => ?_)) | (with_reducible refine cs_ (fun _ => ?_) (fun _ => ?_)) | (with_reducible refine appK_a ?_)))
              refine callH_then hsm ?_
              rintro _ _ ⟨rfl, M, rfl, hs, hk⟩
              (repeat' (first | (simp (maxDischargeDepth := 16) only [*, ↓vD, vU, ↓vMd, vMu, vZ, seval, k_app, k_slc1]) | (with_reducible refine gs (fun _ => ?_) (fun _ => ?_)) | (with_reducible refine cs_ (fun _ => ?_) (fun _ => ?_)) | (with_reducible refine appK_a ?_)))
              obtain ⟨hU, hV, hlen, hmm, hb2⟩ := H.out
              have hkl := hk.1
              simp only [List.length_append] at hkl
              refine ⟨_, St.le.refl _, ⟨b, b2, E ++ M, R2, rfl, rfl, by rw [List.append_assoc], by omega, by simp only [List.length_append]; omega, hF.snoc (by omega) hs, hB2, ?_⟩, by simp only [tn0]; omega⟩
              refine hSE.trans ?_
              rw [List.append_assoc, ← List.append_assoc U]
              exact Stb.append (Stb.refl _) (Stb.append hk (Stb.refl _))
            · by_cases hml : mm < L
              · obtain ⟨U, V, hRR, hU, hV0, hV1, sU, sV⟩ := hBR.tail (by omega) (by omega)
                subst hRR
                have hsm := symMerge (Z := Z) f hok hag cf o hc st bb L c hQst rest hm _ a mm L E U V [] hE (by omega) (by simp at hlen; omega) (by omega) (by omega) sU sV (by simp at hlen ⊢; omega) (Nat.le_refl _)
                rw [List.append_nil] at hsm
                have H := Hid.mk (And.intro hU (And.intro hlen hmm))
                clear hU hlen hmm
                (repeat' (first | (simp (maxDischargeDepth := 16) only [*, ↓vD, vU, ↓vMd, vMu, vZ, seval, k_app, k_slc1]) | (with_reducible refine gs (fun _ => ?_) (fun _ => ?_)) | (with_reducible refine cs_ (fun _ => ?_) (fun _ => ?_)) | (with_reducible refine appK_a ?_)))
                refine callH_then hsm ?_
                rintro _ _ ⟨rfl, M, rfl, hs, hk⟩
                (repeat' (first | (simp (maxDischargeDepth := 16) only [*, ↓vD, vU, ↓vMd, vMu, vZ, seval, k_app, k_slc1]) | (with_reducible refine gs (fun _ => ?_) (fun _ => ?_)) | (with_reducible refine cs_ (fun _ => ?_) (fun _ => ?_)) | (with_reducible refine appK_a ?_)))
                obtain ⟨hU, hlen, hmm⟩ := H.out
                have hkl := hk.1
                simp only [List.length_append] at hkl
                exact ⟨_, St.le.refl _, ⟨z2, E ++ M, rfl, by simp, by omega, by omega, hF _ (Bk.last M hs (by omega)), hSE.trans (Stb.append (Stb.refl _) hk)⟩, by simp only [tn0]; omega⟩
              · have H := Hid.mk (And.intro hlen hmm)
                clear hlen hmm
                (repeat' (first | (simp (maxDischargeDepth := 16) only [*, ↓vD, vU, ↓vMd, vMu, vZ, seval, k_app, k_slc1]) | (with_reducible refine gs (fun _ => ?_) (fun _ => ?_)) | (with_reducible refine cs_ (fun _ => ?_) (fun _ => ?_)) | (with_reducible refine appK_a ?_)))
                obtain ⟨hlen, hmm⟩ := H.out
                exact ⟨_, St.le.refl _, ⟨z2, E ++ R, rfl, rfl, by omega, by omega, hF _ (Bk.last R (hBR.small (by omega) (by omega)) (by omega)), hSE⟩, by simp only [tn0]; omega⟩
        · have hfin : ys = sortS (ltB cf) xs := sortS_of o (hB.small (by omega) (by omega)) hS
          rw [hfin]
          clear hfin
          (repeat' (first | (simp (maxDischargeDepth := 16) only [*, ↓vD, vU, ↓vMd, vMu, vZ, seval, k_app, k_slc1]) | (with_reducible refine gs (fun _ => ?_) (fun _ => ?_)) | (with_reducible refine cs_ (fun _ => ?_) (fun _ => ?_)) | (with_reducible refine appK_a ?_)))
theorem sortStableQ (f : α → AV) (hok : ∀ x, okEl 1 (f x) = true) (hag : ∀ x, (f x).cells = [f x]) {gf : Nat} {fs cs : List AV} (cf : α → α → Int) (o : SWO (ltB cf)) {Q : St → Prop} (hc : ∀ x y (Y : Im) (s : St), Q s → VCalls Try.prog Y gf (fs ++ [f x, f y] ++ cs) s (fun r s' => r = .int .i64 (cf x y) ∧ s' = s))
    (st : St) (bb L c : Nat) (hQst : ∀ (rest : List AV) (xs : List α), Q (ob st bb f rest xs)) (rest : List AV) (xs : List α) (hL : xs.length = L) (hm : L ≤ 1000000000) :
    VCalls Try.prog Z 38 [.osl bb L c, .clo gf fs cs] (ob st bb f rest xs) (fun r s => r = .tup [] ∧ s = ob st bb f rest (sortS (ltB cf) xs)) := by
  have hst := stable (Z := Z) f hok hag cf o hc st bb L c hQst rest xs hL hm
  refine VCalls.of v_slices_SortStableFunc_int64_int64_ok (Nat.le_of_ble_eq_true rfl) ?_
  simp only [v_slices_SortStableFunc_int64_int64, ↓vD, vU, ↓vMd, vMu, vZ, seval, k_app, k_slc1]
  have hlen : ∀ (b n c : Nat), vlen (.osl b n c) = some (.int .i64 n) := fun _ _ _ => rfl
  (repeat' (first | (simp (maxDischargeDepth := 16) only [*, ↓vD, vU, ↓vMd, vMu, vZ, seval, k_app, k_slc1]) | (with_reducible refine gs (fun _ => ?_) (fun _ => ?_)) | (with_reducible refine cs_ (fun _ => ?_) (fun _ => ?_)) | (with_reducible refine appK_a ?_)))
  refine callH_then hst ?_
  rintro _ _ ⟨rfl, rfl⟩
  clear hst
  (repeat' (first | (simp (maxDischargeDepth := 16) only [*, ↓vD, vU, ↓vMd, vMu, vZ, seval, k_app, k_slc1]) | (with_reducible refine gs (fun _ => ?_) (fun _ => ?_)) | (with_reducible refine cs_ (fun _ => ?_) (fun _ => ?_)) | (with_reducible refine appK_a ?_)))
theorem sortStable (f : α → AV) (hok : ∀ x, okEl 1 (f x) = true) (hag : ∀ x, (f x).cells = [f x]) {gf : Nat} {fs cs : List AV} (cf : α → α → Int) (o : SWO (ltB cf)) (hc : ∀ x y, VPure Try.prog gf (fs ++ [f x, f y] ++ cs) (.int .i64 (cf x y)))
    (st : St) (bb L c : Nat) (rest : List AV) (xs : List α) (hL : xs.length = L) (hm : L ≤ 1000000000) :
    VCalls Try.prog Z 38 [.osl bb L c, .clo gf fs cs] (ob st bb f rest xs) (fun r s => r = .tup [] ∧ s = ob st bb f rest (sortS (ltB cf) xs)) :=
  sortStableQ (Q := fun _ => True) f hok hag cf o (fun x y Y s _ => hc x y Y s) st bb L c (fun _ _ => trivial) rest xs hL hm
theorem insertion_nil (t : Tok) (cl : AV) : VPure Try.prog 92 [.sl [] t, .int .i64 0, .int .i64 0, cl] (.tup []) := by
  refine VPure.of v_slices_insertionSortCmpFunc_int64_ok (Nat.le_of_ble_eq_true rfl) (fun Z st => ?_)
  simp only [v_slices_insertionSortCmpFunc_int64, ↓vD, vU, ↓vMd, vMu, vZ, seval, k_app, k_slc1]
  refine loop_out ?_
  (repeat' (first | (simp (maxDischargeDepth := 16) only [*, vX, ↓vD, vU, ↓vMd, vMu, vZ, seval]) | (simp (disch := first | assumption | omega | rfl | exact fun _ => rfl) only [vP]) | ((with_reducible first | apply gsnd | apply csnd | apply gsd | apply csd | apply gsn | apply csn | apply gs | apply cs_) <;> intro _)))
theorem stable_nil (t : Tok) (cl : AV) : VPure Try.prog 68 [.sl [] t, .int .i64 0, cl] (.tup []) := by
  refine VPure.of v_slices_stableCmpFunc_int64_ok (Nat.le_of_ble_eq_true rfl) (fun Z st => ?_)
  simp only [v_slices_stableCmpFunc_int64, ↓vD, vU, ↓vMd, vMu, vZ, seval, k_app, k_slc1]
  refine loop_out ?_
  (repeat' (first | (simp (maxDischargeDepth := 16) only [*, vX, ↓vD, vU, ↓vMd, vMu, vZ, seval]) | (simp (disch := first | assumption | omega | rfl | exact fun _ => rfl) only [vP]) | ((with_reducible first | apply gsnd | apply csnd | apply gsd | apply csd | apply gsn | apply csn | apply gs | apply cs_) <;> intro _) | (with_reducible first | refine callH_use (insertion_nil _ _) ?_ | refine pureQ_use (insertion_nil _ _) ?_)))
  refine loop_out ?_
  (repeat' (first | (simp (maxDischargeDepth := 16) only [*, vX, ↓vD, vU, ↓vMd, vMu, vZ, seval]) | (simp (disch := first | assumption | omega | rfl | exact fun _ => rfl) only [vP]) | ((with_reducible first | apply gsnd | apply csnd | apply gsd | apply csd | apply gsn | apply csn | apply gs | apply cs_) <;> intro _)))
theorem sortStable_nil (t : Tok) (cl : AV) : VPure Try.prog 38 [.sl [] t, cl] (.tup []) := by
  refine VPure.of v_slices_SortStableFunc_int64_int64_ok (Nat.le_of_ble_eq_true rfl) (fun Z st => ?_)
  simp only [v_slices_SortStableFunc_int64_int64, ↓vD, vU, ↓vMd, vMu, vZ, seval, k_app, k_slc1]
  (repeat' (first | (simp (maxDischargeDepth := 16) only [*, vX, ↓vD, vU, ↓vMd, vMu, vZ, seval]) | (simp (disch := first | assumption | omega | rfl | exact fun _ => rfl) only [vP]) | ((with_reducible first | apply gsnd | apply csnd | apply gsd | apply csd | apply gsn | apply csn | apply gs | apply cs_) <;> intro _) | (with_reducible first | refine callH_use (stable_nil _ _) ?_ | refine pureQ_use (stable_nil _ _) ?_)))
end Go.Proofs.Ytglekfgoadehbaa.V.SoI64
end
section
set_option linter.unusedSimpArgs false
set_option linter.unusedVariables false
/- The begins by cost, in plain Lean. -/
namespace Go.Proofs.Ytglekfgoadehbaa.V
open Go Go.Proofs Go.Proofs.Ytglekfgoadehbaa.SP
theorem insS_map {α β : Type} (f : α → β) {lt : α → α → Bool} {lt' : β → β → Bool} (h : ∀ x y, lt' (f x) (f y) = lt x y) (x : α) : ∀ l : List α, insS lt' (f x) (l.map f) = (insS lt x l).map f
  | [] => rfl
  | y :: r => by
    simp only [List.map_cons, insS, h]
    split
    · rfl
    · rw [insS_map f h x r]; rfl
theorem sortS_map {α β : Type} (f : α → β) {lt : α → α → Bool} {lt' : β → β → Bool} (h : ∀ x y, lt' (f x) (f y) = lt x y) (l : List α) : sortS lt' (l.map f) = (sortS lt l).map f := by
  have key : ∀ (l : List α) (acc : List α), (l.map f).foldl (fun acc x => insS lt' x acc) (acc.map f) = (l.foldl (fun acc x => insS lt x acc) acc).map f := by
    intro l
    induction l with
    | nil => intro acc; rfl
    | cons x r ih => intro acc; simp only [List.map_cons, List.foldl_cons]; rw [insS_map f h]; exact ih _
  exact key l []
def ltP (p : Int → Int) (a b : Int) : Bool := decide (p a < p b)
def bestL (p : Int → Int) (T : List Int) : List Int := sortS (ltP p) T
def kLt (p : Int → Int) (a b : Int) : Prop := p a < p b ∨ (p a = p b ∧ a < b)
theorem kLt.trans {p : Int → Int} {a b c : Int} (h : kLt p a b) (k : kLt p b c) : kLt p a c := by unfold kLt at *; omega
theorem kLt.irr {p : Int → Int} {a : Int} (h : kLt p a a) : False := by unfold kLt at h; omega
theorem mem_fold {α : Type} (lt : α → α → Bool) {z : α} : ∀ (l acc : List α), z ∈ l.foldl (fun acc x => insS lt x acc) acc ↔ z ∈ acc ∨ z ∈ l
  | [], acc => by simp
  | x :: r, acc => by
    rw [List.foldl_cons, mem_fold lt r, mem_insS, List.mem_cons]
    constructor
    · rintro ((h | h) | h) <;> simp [h]
    · rintro (h | h | h) <;> simp [h]
theorem mem_sortS {α : Type} (lt : α → α → Bool) {z : α} (l : List α) : z ∈ sortS lt l ↔ z ∈ l := by
  unfold sortS; rw [mem_fold]; simp
theorem len_insS {α : Type} (lt : α → α → Bool) (x : α) : ∀ l : List α, (insS lt x l).length = l.length + 1
  | [] => rfl
  | y :: r => by
    unfold insS; split
    · rfl
    · simp [len_insS lt x r]
theorem len_fold {α : Type} (lt : α → α → Bool) : ∀ (l acc : List α), (l.foldl (fun acc x => insS lt x acc) acc).length = acc.length + l.length
  | [], acc => by simp
  | x :: r, acc => by rw [List.foldl_cons, len_fold lt r, len_insS, List.length_cons]; omega
theorem len_sortS {α : Type} (lt : α → α → Bool) (l : List α) : (sortS lt l).length = l.length := by
  unfold sortS; rw [len_fold]; simp
theorem kLt_ins (p : Int → Int) (x : Int) : ∀ l : List Int, l.Pairwise (kLt p) → (∀ y ∈ l, y < x) → (insS (ltP p) x l).Pairwise (kLt p)
  | [], _, _ => List.pairwise_singleton _ _
  | y :: r, h, hx => by
    have h' := List.pairwise_cons.1 h
    have hy := hx y (by simp)
    unfold insS
    split
    · rename_i hlt
      simp only [ltP, decide_eq_true_eq] at hlt
      refine List.pairwise_cons.2 ⟨fun z hz => ?_, h⟩
      rcases List.mem_cons.1 hz with rfl | hz
      · exact .inl hlt
      · have := h'.1 z hz; unfold kLt at *; omega
    · rename_i hlt
      simp only [ltP, decide_eq_true_eq] at hlt
      refine List.pairwise_cons.2 ⟨fun z hz => ?_, kLt_ins p x r h'.2 (fun z hz => hx z (by simp [hz]))⟩
      rcases mem_insS.1 hz with rfl | hz
      · unfold kLt; omega
      · exact h'.1 z hz
theorem kLt_fold (p : Int → Int) : ∀ (l acc : List Int), acc.Pairwise (kLt p) → (∀ y ∈ acc, ∀ x ∈ l, y < x) → l.Pairwise (· < ·) → (l.foldl (fun acc x => insS (ltP p) x acc) acc).Pairwise (kLt p)
  | [], _, h, _, _ => h
  | x :: r, acc, h, hx, hp => by
    have hp' := List.pairwise_cons.1 hp
    refine kLt_fold p r _ (kLt_ins p x acc h (fun y hy => hx y hy x (by simp))) (fun y hy z hz => ?_) hp'.2
    rcases mem_insS.1 hy with rfl | hy
    · exact hp'.1 z hz
    · exact hx y hy z (by simp [hz])
theorem bestL_up (p : Int → Int) {T : List Int} (h : T.Pairwise (· < ·)) : (bestL p T).Pairwise (kLt p) :=
  kLt_fold p T [] List.Pairwise.nil (by simp) h
theorem mem_bestL (p : Int → Int) {T : List Int} {z : Int} : z ∈ bestL p T ↔ z ∈ T := mem_sortS _ _
theorem len_bestL (p : Int → Int) (T : List Int) : (bestL p T).length = T.length := len_sortS _ _
theorem bestL_rest (p : Int → Int) {T : List Int} (h : T.Pairwise (· < ·)) (k : Nat) {z : Int} (hz : z ∈ T) (hn : z ∉ (bestL p T).take k) : ∀ y ∈ (bestL p T).take k, kLt p y z := fun y hy => by
  have hup := bestL_up p h
  rw [← List.take_append_drop k (bestL p T)] at hup
  have hz' : z ∈ bestL p T := (mem_bestL p).2 hz
  rw [← List.take_append_drop k (bestL p T)] at hz'
  rcases List.mem_append.1 hz' with h1 | h1
  · exact absurd h1 hn
  · exact (List.pairwise_append.1 hup).2.2 y hy z h1
theorem kLt_uniq (p : Int → Int) : ∀ {a b : List Int}, a.Pairwise (kLt p) → b.Pairwise (kLt p) → (∀ z, z ∈ a ↔ z ∈ b) → a = b
  | [], [], _, _, _ => rfl
  | [], y :: r, _, _, h => by have := (h y).2 (by simp); simp at this
  | x :: r, [], _, _, h => by have := (h x).1 (by simp); simp at this
  | x :: r, y :: s, ha, hb, h => by
    have ha' := List.pairwise_cons.1 ha
    have hb' := List.pairwise_cons.1 hb
    have e : x = y := by
      rcases List.mem_cons.1 ((h x).1 (by simp)) with e | e
      · exact e
      · rcases List.mem_cons.1 ((h y).2 (by simp)) with e2 | e2
        · exact e2.symm
        · exact ((ha'.1 y e2).trans (hb'.1 x e)).irr.elim
    subst e
    congr 1
    refine kLt_uniq p ha'.2 hb'.2 (fun z => ?_)
    have hz := h z
    simp only [List.mem_cons] at hz
    constructor
    · intro q
      rcases hz.1 (.inr q) with e | e
      · subst e; exact (ha'.1 _ q).irr.elim
      · exact e
    · intro q
      rcases hz.2 (.inr q) with e | e
      · subst e; exact (hb'.1 _ q).irr.elim
      · exact e
theorem bestL_congr {p q : Int → Int} {c : Int} {T : List Int} (h : T.Pairwise (· < ·)) (hq : ∀ t ∈ T, q t = p t + c) : bestL q T = bestL p T := by
  refine kLt_uniq p ?_ (bestL_up p h) (fun z => by rw [mem_bestL, mem_bestL])
  refine (bestL_up q h).imp_of_mem ?_
  intro a b ha hb hk
  have h1 := hq a ((mem_bestL q).1 ha)
  have h2 := hq b ((mem_bestL q).1 hb)
  unfold kLt at *; omega
theorem bestL_const {p : Int → Int} {c : Int} {T : List Int} (h : T.Pairwise (· < ·)) (hq : ∀ t ∈ T, p t = c) : bestL p T = T := by
  refine kLt_uniq p (bestL_up p h) ?_ (fun z => mem_bestL p)
  refine h.imp_of_mem ?_
  intro a b ha hb hk
  have h1 := hq a ha
  have h2 := hq b hb
  unfold kLt; omega
def minF (p : Int → Int) : List Int → Int → Int
  | [], m => m
  | x :: r, m => minF p r (if p x < p m then x else m)
theorem minF_law (p : Int → Int) : ∀ (r : List Int) (m : Int), (∀ x ∈ r, m < x) → r.Pairwise (· < ·) → (minF p r m ∈ m :: r) ∧ ∀ z ∈ m :: r, z = minF p r m ∨ kLt p (minF p r m) z
  | [], m, _, _ => by simp [minF]
  | x :: r, m, h, hp => by
    have hp' := List.pairwise_cons.1 hp
    have hx := h x (by simp)
    unfold minF
    split
    · rename_i hlt
      obtain ⟨h1, h2⟩ := minF_law p r x hp'.1 hp'.2
      refine ⟨by rcases List.mem_cons.1 h1 with e | e <;> simp [e], fun z hz => ?_⟩
      rcases List.mem_cons.1 hz with rfl | hz
      · have := h2 x (by simp); unfold kLt at *; rcases this with e | e
        · rw [← e]; omega
        · omega
      · exact h2 z hz
    · rename_i hlt
      obtain ⟨h1, h2⟩ := minF_law p r m (fun y hy => h y (by simp [hy])) hp'.2
      refine ⟨by rcases List.mem_cons.1 h1 with e | e <;> simp [e], fun z hz => ?_⟩
      rcases List.mem_cons.1 hz with rfl | hz
      · exact h2 z (by simp)
      · rcases List.mem_cons.1 hz with rfl | hz
        · have := h2 m (by simp); unfold kLt at *; rcases this with e | e
          · rw [← e]; omega
          · omega
        · exact h2 z (by simp [hz])
theorem bestL_head (p : Int → Int) {T : List Int} (h : T.Pairwise (· < ·)) (hn : T ≠ []) : ∃ r, bestL p T = minF p (T.drop 1) (T.headD 0) :: r := by
  cases T with
  | nil => exact absurd rfl hn
  | cons t r =>
    have h' := List.pairwise_cons.1 h
    obtain ⟨h1, h2⟩ := minF_law p r t h'.1 h'.2
    have hup := bestL_up p h
    cases hb : bestL p (t :: r) with
    | nil => have := len_bestL p (t :: r); rw [hb] at this; simp at this
    | cons y s =>
      rw [hb] at hup
      have hup' := List.pairwise_cons.1 hup
      have hy : y ∈ t :: r := (mem_bestL p).1 (by rw [hb]; simp)
      refine ⟨s, ?_⟩
      simp only [List.drop_succ_cons, List.drop_zero, List.headD_cons]
      congr 1
      rcases h2 y hy with e | e
      · exact e
      · have hm : minF p r t ∈ bestL p (t :: r) := (mem_bestL p).2 h1
        rw [hb] at hm
        rcases List.mem_cons.1 hm with e2 | e2
        · exact e2.symm
        · exact ((hup'.1 _ e2).trans e).irr.elim
end Go.Proofs.Ytglekfgoadehbaa.V
end
section
set_option linter.unusedSimpArgs false
set_option linter.unusedVariables false
/- slices.MinFunc at int64; cost.Cheapest. -/
namespace Go.Proofs.Ytglekfgoadehbaa.V
open Go Go.Proofs
set_option maxRecDepth 100000
set_option maxHeartbeats 4000000
structure Tm where
  v : Int
  h : -2199023255552 ≤ v ∧ v ≤ 2199023255552
instance : Inhabited Tm := ⟨⟨0, by omega⟩⟩
def Tm.a (x : Tm) : AV := num x.v
theorem Tm.ok (x : Tm) : okEl 1 x.a = true := rfl
theorem Tm.ag (x : Tm) : x.a.cells = [x.a] := rfl
theorem ld_pclo {st : St} {b g : Nat} {fs cs : List AV} (h : st.objs b = some (.cells [.clo g fs cs])) : vload st (.ptr b 0) 1 false = some (.clo g fs cs) := by simp [vload, h, grab]
section
variable {Z : Im} {st : St} {g b : Nat} {cs : List AV} {m : Nat → Option (Array MapEntry → Nat → Prop)} {price : Int → Int}
theorem Best1_c (hg : ∀ t : Tm, VPureM Try.prog g ([.int .i64 t.v] ++ cs) (.int .i64 (price t.v)) m) (hmo : mOf st = m) (hb : st.objs b = some (.cells [.clo g [] cs])) (x y : Tm) :
    VCalls Try.prog Z 39 [.int .i64 x.v, .int .i64 y.v, .ptr b 0] st (fun r s => r = .int .i64 (cmpI (price x.v) (price y.v)) ∧ s = st) := by
  have hx := hg x
  have hy := hg y
  have hc := Compare_v (price x.v) (price y.v)
  have hl := ld_pclo hb
  simp only [List.cons_append, List.nil_append] at hx hy
  refine VCalls.of v_cost_Best_1_ok (Nat.le_of_ble_eq_true rfl) ?_
  simp only [v_cost_Best_1, ↓vD, vU, ↓vMd, vMu, vZ, seval, k_app, k_slc1]
  (repeat' (first | (simp (maxDischargeDepth := 16) only [*, vX, ↓vD, vU, ↓vMd, vMu, vZ, seval]) | (simp (disch := first | assumption | omega | rfl | exact fun _ => rfl) only [vP]) | ((with_reducible first | apply gsnd | apply csnd | apply gsd | apply csd | apply gsn | apply csn | apply gs | apply cs_) <;> intro _) | (with_reducible first | refine callH_useM (hx) (by first | assumption | rfl | (simp only [mOf_insN, mOf_kill, mOf_add, ins_objs, *, if_false, if_true, not_false_eq_true, ite_some_none, and_self]; done)) ?_ | refine pureQ_useN (hx) (by first | assumption | rfl | (simp only [mOf_insN, mOf_kill, mOf_add, ins_objs, *, if_false, if_true, not_false_eq_true, ite_some_none, and_self]; done)) ?_) | (with_reducible first | refine callH_useM (hy) (by first | assumption | rfl | (simp only [mOf_insN, mOf_kill, mOf_add, ins_objs, *, if_false, if_true, not_false_eq_true, ite_some_none, and_self]; done)) ?_ | refine pureQ_useN (hy) (by first | assumption | rfl | (simp only [mOf_insN, mOf_kill, mOf_add, ins_objs, *, if_false, if_true, not_false_eq_true, ite_some_none, and_self]; done)) ?_) | (with_reducible first | refine callH_use (hc) ?_ | refine pureQ_use (hc) ?_)))
theorem Cheapest1_c (hg : ∀ t : Tm, VPureM Try.prog g ([.int .i64 t.v] ++ cs) (.int .i64 (price t.v)) m) (hmo : mOf st = m) (hb : st.objs b = some (.cells [.clo g [] cs])) (x y : Tm) :
    VCalls Try.prog Z 45 [.int .i64 x.v, .int .i64 y.v, .ptr b 0] st (fun r s => r = .int .i64 (cmpI (price x.v) (price y.v)) ∧ s = st) := by
  have hx := hg x
  have hy := hg y
  have hc := Compare_v (price x.v) (price y.v)
  have hl := ld_pclo hb
  simp only [List.cons_append, List.nil_append] at hx hy
  refine VCalls.of v_cost_Cheapest_1_ok (Nat.le_of_ble_eq_true rfl) ?_
  simp only [v_cost_Cheapest_1, ↓vD, vU, ↓vMd, vMu, vZ, seval, k_app, k_slc1]
  (repeat' (first | (simp (maxDischargeDepth := 16) only [*, vX, ↓vD, vU, ↓vMd, vMu, vZ, seval]) | (simp (disch := first | assumption | omega | rfl | exact fun _ => rfl) only [vP]) | ((with_reducible first | apply gsnd | apply csnd | apply gsd | apply csd | apply gsn | apply csn | apply gs | apply cs_) <;> intro _) | (with_reducible first | refine callH_useM (hx) (by first | assumption | rfl | (simp only [mOf_insN, mOf_kill, mOf_add, ins_objs, *, if_false, if_true, not_false_eq_true, ite_some_none, and_self]; done)) ?_ | refine pureQ_useN (hx) (by first | assumption | rfl | (simp only [mOf_insN, mOf_kill, mOf_add, ins_objs, *, if_false, if_true, not_false_eq_true, ite_some_none, and_self]; done)) ?_) | (with_reducible first | refine callH_useM (hy) (by first | assumption | rfl | (simp only [mOf_insN, mOf_kill, mOf_add, ins_objs, *, if_false, if_true, not_false_eq_true, ite_some_none, and_self]; done)) ?_ | refine pureQ_useN (hy) (by first | assumption | rfl | (simp only [mOf_insN, mOf_kill, mOf_add, ins_objs, *, if_false, if_true, not_false_eq_true, ite_some_none, and_self]; done)) ?_) | (with_reducible first | refine callH_use (hc) ?_ | refine pureQ_use (hc) ?_)))
end
def minT (p : Int → Int) : List Tm → Tm → Tm
  | [], m => m
  | x :: r, m => minT p r (if p x.v < p m.v then x else m)
theorem minT_v (p : Int → Int) : ∀ (l : List Tm) (m : Tm), (minT p l m).v = minF p (l.map Tm.v) m.v
  | [], _ => rfl
  | x :: r, m => by
    simp only [minT, List.map_cons, minF]
    rw [minT_v p r]; split <;> rfl
theorem minT_take (p : Int → Int) : ∀ (l : List Tm) (m : Tm) (k : Nat) (h : k < l.length), minT p (l.take (k + 1)) m = if p l[k].v < p (minT p (l.take k) m).v then l[k] else minT p (l.take k) m
  | [], _, k, h => absurd h (Nat.not_lt_zero _)
  | x :: r, m, 0, _ => by simp [minT]
  | x :: r, m, k + 1, h => by
    simp only [List.take_succ_cons, minT, List.getElem_cons_succ]
    exact minT_take p r _ k (by simpa using h)
theorem cmpI_neg (a b : Int) : (cmpI a b < 0) = (a < b) := by
  unfold cmpI; apply propext; split
  · simp [*]
  · split <;> simp [*]
theorem MinFunc_c {Z : Im} {st : St} {gf : Nat} {fs cs : List AV} {p : Int → Int} (L : List Tm) (hn : L.length ≤ 1000000) (h0 : 0 < L.length) (t : Tok) (hc : ∀ x y : Tm, VCalls Try.prog Z gf (fs ++ [.int .i64 x.v, .int .i64 y.v] ++ cs) st (fun r s => r = .int .i64 (cmpI (p x.v) (p y.v)) ∧ s = st)) :
    VCalls Try.prog Z 44 [.sl (L.map Tm.a) t, .clo gf fs cs] st (fun r s => r = .int .i64 (minF p ((L.drop 1).map Tm.v) L[0].v) ∧ s = st) := by
  refine VCalls.of v_slices_MinFunc_int64_int64_ok (Nat.le_of_ble_eq_true rfl) ?_
  simp only [v_slices_MinFunc_int64_int64, ↓vD, vU, ↓vMd, vMu, vZ, seval, k_app, k_slc1]
  have hz : ¬ (L.length : Int) < 1 := by omega
  (repeat' (first | (simp (maxDischargeDepth := 16) only [*, Tm.a, num, vX, ↓vD, vU, ↓vMd, vMu, vZ, seval]) | (simp (disch := first | assumption | omega | rfl | exact fun _ => rfl) only [Tm.a, num, vP]) | ((with_reducible first | apply gsnd | apply csnd | apply gsd | apply csd | apply gsn | apply csn | apply gs | apply cs_) <;> intro _)))
  rw [← minT_v]
  refine loopp_of (len := L.length - 1) (by simp only [asgL, dsts, List.cons_append, List.nil_append, List.append_nil]; rfl) (by simp only [noR, Bool.and_true, Bool.and_false]; rfl) (by omega) (fun k fr => fr.t 6 = .int .i64 ((k : Int) + 1) ∧ ∃ q, Hid (q = minT p ((L.drop 1).take k) L[0]) ∧ fr.t 5 = .int .i64 q.v) ?_ ?_ ?_
  · exact ⟨by simp [↓vD, vU, ↓vMd, vMu, vZ, seval, k_app, k_slc1], L[0], ⟨rfl⟩, by simp [↓vD, vU, ↓vMd, vMu, vZ, seval, k_app, k_slc1]⟩
  · rintro k fr hk hw hfr hd ⟨h6, q, hq, h5⟩
    have hk1 : k + 1 < L.length := by omega
    obtain ⟨x, hx⟩ : ∃ x, L[k + 1] = x := ⟨_, rfl⟩
    have HQ : Hid (minT p ((L.drop 1).take (k + 1)) L[0] = if p x.v < p q.v then x else q) := ⟨by
      rw [hq.out, minT_take p (L.drop 1) L[0] k (by simp; omega)]
      simp only [List.getElem_drop, Nat.add_comm 1 k, hx]⟩
    have hia : viad 1 (.sl (L.map Tm.a) t) (.int .i64 ((k : Int) + 1)) = some (.iptr (.int .i64 x.v) 0) := by
      rw [show (k : Int) + 1 = ((k + 1 : Nat) : Int) by omega]
      exact e_iad Tm.a L t .i64 (k + 1) (x := x) (by rw [List.getElem?_eq_getElem hk1, hx]) rfl (by omega)
    have hci := hc x q
    have hlt : ((k : Int) + 1 < L.length) := by omega
    clear hq hx hc
    by_cases hc2 : p x.v < p q.v
    · rw [if_pos hc2] at HQ
      have hcm : cmpI (p x.v) (p q.v) < 0 := by rw [cmpI_neg]; exact hc2
      have HC := Hid.mk hci
      clear hci
      (repeat' (first | (simp (maxDischargeDepth := 16) only [*, vX, ↓vD, vU, ↓vMd, vMu, vZ, seval]) | (simp (disch := first | assumption | omega | rfl | exact fun _ => rfl) only [vP]) | ((with_reducible first | apply gsnd | apply csnd | apply gsd | apply csd | apply gsn | apply csn | apply gs | apply cs_) <;> intro _)))
      refine callH_then HC.out ?_
      rintro _ _ ⟨rfl, rfl⟩
      (repeat' (first | (simp (maxDischargeDepth := 16) only [*, vX, ↓vD, vU, ↓vMd, vMu, vZ, seval]) | (simp (disch := first | assumption | omega | rfl | exact fun _ => rfl) only [vP]) | ((with_reducible first | apply gsnd | apply csnd | apply gsd | apply csd | apply gsn | apply csn | apply gs | apply cs_) <;> intro _)))
      exact ⟨x, ⟨HQ.out.symm⟩, rfl⟩
    · rw [if_neg hc2] at HQ
      have hcm : ¬ cmpI (p x.v) (p q.v) < 0 := by rw [cmpI_neg]; exact hc2
      have HC := Hid.mk hci
      clear hci
      (repeat' (first | (simp (maxDischargeDepth := 16) only [*, vX, ↓vD, vU, ↓vMd, vMu, vZ, seval]) | (simp (disch := first | assumption | omega | rfl | exact fun _ => rfl) only [vP]) | ((with_reducible first | apply gsnd | apply csnd | apply gsd | apply csd | apply gsn | apply csn | apply gs | apply cs_) <;> intro _)))
      refine callH_then HC.out ?_
      rintro _ _ ⟨rfl, rfl⟩
      (repeat' (first | (simp (maxDischargeDepth := 16) only [*, vX, ↓vD, vU, ↓vMd, vMu, vZ, seval]) | (simp (disch := first | assumption | omega | rfl | exact fun _ => rfl) only [vP]) | ((with_reducible first | apply gsnd | apply csnd | apply gsd | apply csd | apply gsn | apply csn | apply gs | apply cs_) <;> intro _)))
      exact ⟨q, ⟨HQ.out.symm⟩, rfl⟩
  · rintro fr hfr hd ⟨h6, q, hq, h5⟩
    have hq2 : q = minT p (L.drop 1) L[0] := by rw [hq.out, List.take_of_length_le (by simp)]
    rw [← hq2]
    clear hq hq2 hc
    have e : ((L.length - 1 : Nat) : Int) + 1 = L.length := by omega
    rw [e] at h6
    clear e
    (repeat' (first | (simp (maxDischargeDepth := 16) only [*, Tm.a, num, vX, ↓vD, vU, ↓vMd, vMu, vZ, seval]) | (simp (disch := first | assumption | omega | rfl | exact fun _ => rfl) only [Tm.a, num, vP]) | ((with_reducible first | apply gsnd | apply csnd | apply gsd | apply csd | apply gsn | apply csn | apply gs | apply cs_) <;> intro _)))
end Go.Proofs.Ytglekfgoadehbaa.V
end
section
set_option linter.unusedSimpArgs false
set_option linter.unusedVariables false
/- cost.Cheapest. -/
namespace Go.Proofs.Ytglekfgoadehbaa.V
open Go Go.Proofs
set_option maxRecDepth 100000
set_option maxHeartbeats 4000000
theorem tms (A : List Int) (h : ∀ x ∈ A, -2199023255552 ≤ x ∧ x ≤ 2199023255552) : ∃ L : List Tm, L.map Tm.v = A := by
  induction A with
  | nil => exact ⟨[], rfl⟩
  | cons x r ih =>
    obtain ⟨L, hL⟩ := ih fun y hy => h y (by simp [hy])
    exact ⟨⟨x, h x (by simp)⟩ :: L, by simp [hL]⟩
theorem fl_tms (L : List Tm) : fl num (L.map Tm.v) = fl Tm.a L := by unfold fl; rw [List.map_map]; rfl
theorem allT_bd (f : List Seg) (w : Vec) (l : List Leg) : (allT (beginsF f w l).1).length ≤ 1000000 ∧ ∀ x ∈ allT (beginsF f w l).1, -2199023255552 ≤ x ∧ x ≤ 2199023255552 := by
  constructor
  · by_cases h : (checkF f w l).2 = 0
    · have hO := check_ok.1 h
      have hr := (begins_is hO).1
      have := allT_len hr (by have := hO.win; omega)
      have := hO.span
      omega
    · have : (beginsF f w l).1 = [] := by unfold beginsF; rw [if_pos (.inl h)]
      rw [this]; simp [allT]
  · intro x hx
    obtain ⟨v, hv, h1, h2⟩ := mem_allT.1 hx
    have := begins_bd f w l v hv
    omega
theorem allT_ne {f : List Seg} {w : Vec} {l : List Leg} (hne : (beginsF f w l).1 ≠ []) : allT (beginsF f w l).1 ≠ [] := fun e => by
  cases hb : (beginsF f w l).1 with
  | nil => exact hne hb
  | cons y r =>
    by_cases h : (checkF f w l).2 = 0
    · have hr := (begins_is (check_ok.1 h)).1
      rw [hb] at hr
      have : y.m ∈ allT (beginsF f w l).1 := by
        rw [hb, allT_cons, List.mem_append, mem_ticks]; left; exact ⟨by omega, hr.2.1⟩
      rw [e] at this; simp at this
    · have : (beginsF f w l).1 = [] := by unfold beginsF; rw [if_pos (.inl h)]
      rw [hb] at this; cases this
theorem begE_0 {load f : List Seg} {w : Vec} {l : List Leg} (h : begE load f w l = 0) : mayF load = true ∧ (beginsF f w l).2 = 0 ∧ load.any muchS = false ∧ (beginsF f w l).1 ≠ [] ∧ OkB f w l ∧ (0 ≤ (lengthF l).1 ∧ (lengthF l).1 ≤ 65536) ∧ ∀ x ∈ load, small 17592186044416 x.v := by
  unfold begE at h
  cases hm : mayF load with
  | false => rw [hm] at h; simp at h
  | true =>
    rw [hm, if_pos rfl] at h
    split at h
    · rename_i hc; exact absurd h hc
    rename_i hc
    cases hu : load.any muchS with
    | true => rw [hu] at h; simp at h
    | false =>
      rw [hu] at h
      simp only [Bool.false_eq_true, if_false] at h
      split at h
      · simp at h
      rename_i hr
      have hc := Decidable.not_not.1 hc
      have hO := check_ok.1 (by rw [← begins_err]; exact hc)
      have h1 := check_1 hO
      have hl : (lengthF l).2 = 0 := by
        have := hO.len
        unfold checkF at h1
        split at h1
        · split at h1
          · rename_i hx; simp at h1
          · rename_i hx; simp only [not_or, Decidable.not_not] at hx; exact hx.1
        · simp at h1
      exact ⟨rfl, hc, rfl, hr, hO, length_bd hl, much_small hu⟩
def cheapF (load f : List Seg) (w : Vec) (l : List Leg) : Int × Int :=
  if begE load f w l = 0 then (minF (costP load (lengthF l).1) ((allT (beginsF f w l).1).drop 1) ((allT (beginsF f w l).1).headD 0), costP load (lengthF l).1 (minF (costP load (lengthF l).1) ((allT (beginsF f w l).1).drop 1) ((allT (beginsF f w l).1).headD 0))) else (0, 0)
theorem Cheapest_c {Z : Im} {st : St} (load : List Seg) (hl : load.length ≤ 1000000) (f : List Seg) (hf : f.length ≤ 1000000) (w : Vec) (h1 : -9223372036854775808 ≤ w.m) (h2 : w.c ≤ 9223372036854775807) (l : List Leg) (hn : l.length ≤ 1000000000) (tk tk' tk2 : Tok) :
    VCalls Try.prog Z 24 [.sl (load.map Seg.a) tk, .sl (f.map Seg.a) tk', .agg [.int .i64 w.m, .int .i64 w.c], .sl (l.map Leg.a) tk2] st (fun r s => r = .tup [num (cheapF load f w l).1, num (cheapF load f w l).2, num (begE load f w l)] ∧ s = st) := by
  have hb := fun st => Hid.mk (begins_c (Z := Z) (st := st) load hl f hf w h1 h2 l hn tk tk' tk2)
  by_cases h0 : begE load f w l = 0
  · obtain ⟨k1, k2, k3, k4, k5, k6, k7⟩ := begE_0 h0
    obtain ⟨bd1, bd2⟩ := allT_bd f w l
    have hne := allT_ne k4
    obtain ⟨L, hL⟩ := tms _ bd2
    have hof := fun (m : Nat → Option (Array MapEntry → Nat → Prop)) bm hb (t : Tm) => of_c load hl k1 k7 _ k6 tk (bm := bm) (m := m) hb t.v t.h
    have hcf : cheapF load f w l = (minF (costP load (lengthF l).1) ((allT (beginsF f w l).1).drop 1) ((allT (beginsF f w l).1).headD 0), costP load (lengthF l).1 (minF (costP load (lengthF l).1) ((allT (beginsF f w l).1).drop 1) ((allT (beginsF f w l).1).headD 0))) := by unfold cheapF; rw [if_pos h0]
    rw [hcf]
    simp only [h0, ← hL, fl_tms, List.length_map] at hb bd1 hne ⊢
    clear hcf hL bd2 k1 k2 k3 k4 k5 k6 k7 h0
    unfold ofA at hb
    obtain ⟨n, hN⟩ : ∃ n, (lengthF l).1 = n := ⟨_, rfl⟩
    rw [hN] at hof
    simp only [hN] at hb ⊢
    clear hN
    obtain ⟨p, hp⟩ : ∃ p, costP load n = p := ⟨_, rfl⟩
    rw [hp] at hof
    simp only [hp] at hb ⊢
    clear hp
    refine VCalls.of v_cost_Cheapest_ok (Nat.le_of_ble_eq_true rfl) ?_
    simp only [v_cost_Cheapest, ↓vD, vU, ↓vMd, vMu, vZ, seval, k_app, k_slc1]
    (repeat' (first | (simp (maxDischargeDepth := 16) only [*, vX, ↓vD, vU, ↓vMd, vMu, vZ, seval]) | (simp (disch := first | assumption | omega | rfl | exact fun _ => rfl) only [vP]) | ((with_reducible first | apply gsnd | apply csnd | apply gsd | apply csd | apply gsn | apply csn | apply gs | apply cs_) <;> intro _) | (with_reducible refine objQ_i (fun _ _ => ?_); repeat with_reducible refine imp_i (fun _ => ?_))))
    rename_i b6 hb6
    refine callH_then (hb _).out ?_
    rintro r s (⟨a1, _, _⟩ | ⟨a1, b, c, rest, bm, ⟨n1, n2⟩, ⟨o1, o2⟩, a2, rfl, rfl⟩)
    · exact absurd rfl a1.out
    clear hb a1
    simp only [ins_objs, ite_some_none] at o1 o2
    obtain ⟨o1a, o1b, o1⟩ := o1
    obtain ⟨o2a, o2b, o2⟩ := o2
    (repeat' (first | (simp (maxDischargeDepth := 16) only [*, num, vX, ↓vD, vU, ↓vMd, vMu, vZ, seval]) | (simp (disch := first | assumption | omega | rfl | exact fun _ => rfl) only [num, vP]) | ((with_reducible first | apply gsnd | apply csnd | apply gsd | apply csd | apply gsn | apply csn | apply gs | apply cs_) <;> intro _) | (with_reducible refine objQ_i (fun _ _ => ?_); repeat with_reducible refine imp_i (fun _ => ?_))))
    rename_i b12 hb12 n3 n4 n5 n6 n7 n8
    obtain ⟨S, hS⟩ : ∃ S, (((st.ins b6 (.cells [.int .i64 w.m, .int .i64 w.c])).ins bm (memo (Value.int .i64) .i64 p)).ins b (.cells (fl Tm.a L ++ rest))).ins b12 (.cells [.clo 67 [] [.iptr (.agg [.sl (load.map Seg.a) tk, .mp bm]) 0, .iptr (.int .i64 n) 0]]) = S := ⟨_, rfl⟩
    have hob : S.objs b = some (.cells ((L.map Tm.a).flatMap AV.cells ++ rest)) := by rw [← hS]; simp only [St.ins, *, if_true, if_false]; rfl
    have hmm : (S.del b).objs bm = some (memo (Value.int .i64) .i64 p) := by rw [← hS]; simp only [St.ins, St.del, *, if_true, if_false]
    have h12 : (S.del b).objs b12 = some (.cells [.clo 67 [] [.iptr (.agg [.sl (load.map Seg.a) tk, .mp bm]) 0, .iptr (.int .i64 n) 0]]) := by rw [← hS]; simp only [St.ins, St.del, *, if_true, if_false]
    have hle : st.le (S.del b) := by
      rw [← hS]; refine ⟨fun i o h => ?_, fun x h => by simpa [St.ins, St.del] using h⟩
      have e1 : i ≠ b := fun e => by subst e; rw [o1] at h; cases h
      have e2 : i ≠ b6 := fun e => by subst e; rw [hb6] at h; cases h
      have e3 : i ≠ bm := fun e => by subst e; rw [o2] at h; cases h
      have e4 : i ≠ b12 := fun e => by subst e; rw [hb12] at h; cases h
      simp only [St.ins, St.del, e1, e2, e3, e4, if_false, h]
    rw [hS]
    clear hS
    have hof2 := hof (mOf (S.del b)) bm (fun st' h => mOf_at h hmm)
    clear hof
    have hL0 : 0 < L.length := by cases L with | nil => simp at hne | cons => simp
    have hq := minT_v p (L.drop 1) L[0]
    have hd : (L.map Tm.v).headD 0 = L[0].v := by cases L with | nil => simp at hne | cons => rfl
    have hdr : (L.map Tm.v).drop 1 = (L.drop 1).map Tm.v := by rw [List.map_drop]
    refine callH_then (VCalls.pre (Wk.freezeA _ (sz := 1) (Nat.zero_lt_one) hob (by simp) (by
      intro x hx; obtain ⟨y, _, rfl⟩ := List.mem_map.1 hx; rfl) _) (MinFunc_c (fs := []) (cs := [.ptr b12 0]) (p := p) L bd1 hL0 .no (fun x y => Cheapest1_c (cs := [.iptr (.agg [.sl (load.map Seg.a) tk, .mp bm]) 0, .iptr (.int .i64 n) 0]) hof2 rfl h12 x y))) ?_
    rintro _ _ ⟨rfl, rfl⟩
    rw [hd, hdr]
    rw [← hq]
    obtain ⟨q, hq2⟩ : ∃ q, minT p (L.drop 1) L[0] = q := ⟨_, rfl⟩
    rw [hq2]
    have hc := hof2 q
    have hld := ld_pclo h12
    clear hq hq2 hof2 hd hdr hne hob
    (repeat' (first | (simp (maxDischargeDepth := 16) only [*, num, vX, ↓vD, vU, ↓vMd, vMu, vZ, seval]) | (simp (disch := first | assumption | omega | rfl | exact fun _ => rfl) only [num, vP]) | ((with_reducible first | apply gsnd | apply csnd | apply gsd | apply csd | apply gsn | apply csn | apply gs | apply cs_) <;> intro _) | (with_reducible refine objQ_i (fun _ _ => ?_); repeat with_reducible refine imp_i (fun _ => ?_)) | (with_reducible first | refine callH_useM (hc) (by first | assumption | rfl | (simp only [mOf_insN, mOf_kill, mOf_add, ins_objs, *, if_false, if_true, not_false_eq_true, ite_some_none, and_self]; done)) ?_ | refine pureQ_useN (hc) (by first | assumption | rfl | (simp only [mOf_insN, mOf_kill, mOf_add, ins_objs, *, if_false, if_true, not_false_eq_true, ite_some_none, and_self]; done)) ?_)))
    try exact ⟨st, hle, rfl⟩
  · have hcf : cheapF load f w l = (0, 0) := by unfold cheapF; rw [if_neg h0]
    rw [hcf]
    obtain ⟨e, he⟩ : ∃ e, begE load f w l = e := ⟨_, rfl⟩
    simp only [he] at hb h0 ⊢
    clear he hcf
    refine VCalls.of v_cost_Cheapest_ok (Nat.le_of_ble_eq_true rfl) ?_
    simp only [v_cost_Cheapest, ↓vD, vU, ↓vMd, vMu, vZ, seval, k_app, k_slc1]
    (repeat' (first | (simp (maxDischargeDepth := 16) only [*, vX, ↓vD, vU, ↓vMd, vMu, vZ, seval]) | (simp (disch := first | assumption | omega | rfl | exact fun _ => rfl) only [vP]) | ((with_reducible first | apply gsnd | apply csnd | apply gsd | apply csd | apply gsn | apply csn | apply gs | apply cs_) <;> intro _) | (with_reducible refine objQ_i (fun _ _ => ?_); repeat with_reducible refine imp_i (fun _ => ?_))))
    rename_i b6 hb6
    refine callH_then (hb _).out ?_
    rintro r s (⟨_, rfl, rfl⟩ | ⟨a1, _⟩)
    · clear hb
      (repeat' (first | (simp (maxDischargeDepth := 16) only [*, num, vX, ↓vD, vU, ↓vMd, vMu, vZ, seval]) | (simp (disch := first | assumption | omega | rfl | exact fun _ => rfl) only [num, vP]) | ((with_reducible first | apply gsnd | apply csnd | apply gsd | apply csd | apply gsn | apply csn | apply gs | apply cs_) <;> intro _) | (with_reducible refine objQ_i (fun _ _ => ?_); repeat with_reducible refine imp_i (fun _ => ?_))))
    · exact absurd a1.out h0
end Go.Proofs.Ytglekfgoadehbaa.V
end
section
set_option linter.unusedSimpArgs false
set_option linter.unusedVariables false
/- cost.Best. -/
namespace Go.Proofs.Ytglekfgoadehbaa.V
open Go Go.Proofs Go.Proofs.Ytglekfgoadehbaa.SP
set_option maxRecDepth 100000
set_option maxHeartbeats 4000000
def cmpT (p : Int → Int) (x y : Tm) : Int := cmpI (p x.v) (p y.v)
theorem ltB_T (p : Int → Int) (x y : Tm) : ltB (cmpT p) x y = decide (p x.v < p y.v) := by
  unfold ltB cmpT
  rw [Bool.eq_iff_iff]
  simp only [decide_eq_true_eq, cmpI_neg]
theorem swoT (p : Int → Int) : SWO (ltB (cmpT p)) := by
  constructor
  all_goals (intros; simp only [ltB_T, decide_eq_true_eq, decide_eq_false_iff_not] at *; omega)
theorem Wk.freezeT (st : St) {sz b n c : Nat} (hp : 0 < sz) {xs rest : List AV} (hob : st.objs b = some (.cells (xs.flatMap AV.cells ++ rest))) (hn : n = xs.length) (hk : ∀ x ∈ xs, okEl sz x = true) (l : List AV) : Wk st [.tup (.osl b n c :: l)] (st.del b) [.tup (.sl xs .no :: l)] := fun B I W vs hr ha =>
  match vs, ha with
  | [v], ha => by
    obtain ⟨h1, _⟩ := ha
    simp only [Rep] at h1
    obtain ⟨us, rfl, hu⟩ := h1
    cases hus : us.toList with
    | nil => rw [hus] at hu; exact hu.elim
    | cons u r =>
      rw [hus] at hu
      obtain ⟨J, q1, q2, q3⟩ := rel_freeze hr hp hu.1 hob hn hk
      exact ⟨J, q1, q2, by simp only [Rep]; exact ⟨us, rfl, by rw [hus]; exact ⟨q3, RepL.mono q1 _ _ hu.2⟩⟩, trivial⟩
  | [], ha => ha.elim
  | _ :: _ :: _, ha => ha.2.elim
def sortT (p : Int → Int) (L : List Tm) : List Tm := sortS (ltB (cmpT p)) L
def bestF (load f : List Seg) (w : Vec) (l : List Leg) (many : Int) : Int :=
  if begE load f w l = 5 then 5 else if many < 1 ∨ 64 < many then 2 else begE load f w l
theorem Best_c {Z : Im} {st : St} (load : List Seg) (hl : load.length ≤ 1000000) (f : List Seg) (hf : f.length ≤ 1000000) (w : Vec) (h1 : -9223372036854775808 ≤ w.m) (h2 : w.c ≤ 9223372036854775807) (l : List Leg) (hn : l.length ≤ 1000000000) (many : Int) (tk tk' tk2 : Tok) :
    VCalls Try.prog Z 22 [.sl (load.map Seg.a) tk, .sl (f.map Seg.a) tk', .agg [.int .i64 w.m, .int .i64 w.c], .sl (l.map Leg.a) tk2, .int .i64 many] st (fun r s => s = st ∧
      ((Hid (bestF load f w l many ≠ 0) ∧ r = .tup [.sl [] .full, num (bestF load f w l many)]) ∨
       (Hid (bestF load f w l many = 0) ∧ ∃ L : List Tm, Hid (L.map Tm.v = allT (beginsF f w l).1) ∧ r = .tup [.sl (((sortT (costP load (lengthF l).1) L).take many.toNat).map Tm.a) .no, num 0]))) := by
  have hb := fun st => Hid.mk (begins_c (Z := Z) (st := st) load hl f hf w h1 h2 l hn tk tk' tk2)
  by_cases h0 : begE load f w l = 0
  case neg =>
    unfold bestF
    obtain ⟨e, he⟩ : ∃ e, begE load f w l = e := ⟨_, rfl⟩
    simp only [he] at hb h0 ⊢
    clear he
    obtain ⟨E, hE⟩ : ∃ E, (if e = 5 then 5 else if many < 1 ∨ 64 < many then 2 else e) = E := ⟨_, rfl⟩
    rw [hE]
    refine VCalls.of v_cost_Best_ok (Nat.le_of_ble_eq_true rfl) ?_
    simp only [v_cost_Best, ↓vD, vU, ↓vMd, vMu, vZ, seval, k_app, k_slc1]
    (repeat' (first | (simp (maxDischargeDepth := 16) only [*, vX, ↓vD, vU, ↓vMd, vMu, vZ, seval]) | (simp (disch := first | assumption | omega | rfl | exact fun _ => rfl) only [vP]) | ((with_reducible first | apply gsnd | apply csnd | apply gsd | apply csd | apply gsn | apply csn | apply gs | apply cs_) <;> intro _) | (with_reducible refine objQ_i (fun _ _ => ?_); repeat with_reducible refine imp_i (fun _ => ?_))))
    rename_i b7 hb7
    refine callH_then (hb _).out ?_
    rintro r s (⟨_, rfl, rfl⟩ | ⟨a1, _⟩)
    · clear hb
      have HE := Hid.mk hE
      clear hE
      by_cases c1 : e = 5
      · obtain rfl : E = 5 := by rw [← HE.out, if_pos c1]
        subst c1
        (repeat' (first | (simp (maxDischargeDepth := 16) only [*, num, vX, ↓vD, vU, ↓vMd, vMu, vZ, seval]) | (simp (disch := first | assumption | omega | rfl | exact fun _ => rfl) only [num, vP]) | ((with_reducible first | apply gsnd | apply csnd | apply gsd | apply csd | apply gsn | apply csn | apply gs | apply cs_) <;> intro _) | (with_reducible refine objQ_i (fun _ _ => ?_); repeat with_reducible refine imp_i (fun _ => ?_))))
        first | exact .inl ⟨trivial⟩ | exact .inl ⟨by decide⟩
      by_cases c2 : many < 1
      · obtain rfl : E = 2 := by rw [← HE.out, if_neg c1, if_pos (.inl c2)]
        (repeat' (first | (simp (maxDischargeDepth := 16) only [*, num, vX, ↓vD, vU, ↓vMd, vMu, vZ, seval]) | (simp (disch := first | assumption | omega | rfl | exact fun _ => rfl) only [num, vP]) | ((with_reducible first | apply gsnd | apply csnd | apply gsd | apply csd | apply gsn | apply csn | apply gs | apply cs_) <;> intro _) | (with_reducible refine objQ_i (fun _ _ => ?_); repeat with_reducible refine imp_i (fun _ => ?_))))
        first | exact .inl ⟨trivial⟩ | exact .inl ⟨by decide⟩
      by_cases c3 : 64 < many
      · obtain rfl : E = 2 := by rw [← HE.out, if_neg c1, if_pos (.inr c3)]
        (repeat' (first | (simp (maxDischargeDepth := 16) only [*, num, vX, ↓vD, vU, ↓vMd, vMu, vZ, seval]) | (simp (disch := first | assumption | omega | rfl | exact fun _ => rfl) only [num, vP]) | ((with_reducible first | apply gsnd | apply csnd | apply gsd | apply csd | apply gsn | apply csn | apply gs | apply cs_) <;> intro _) | (with_reducible refine objQ_i (fun _ _ => ?_); repeat with_reducible refine imp_i (fun _ => ?_))))
        first | exact .inl ⟨trivial⟩ | exact .inl ⟨by decide⟩
      · obtain rfl : E = e := by rw [← HE.out, if_neg c1, if_neg (by omega)]
        (repeat' (first | (simp (maxDischargeDepth := 16) only [*, num, vX, ↓vD, vU, ↓vMd, vMu, vZ, seval]) | (simp (disch := first | assumption | omega | rfl | exact fun _ => rfl) only [num, vP]) | ((with_reducible first | apply gsnd | apply csnd | apply gsd | apply csd | apply gsn | apply csn | apply gs | apply cs_) <;> intro _) | (with_reducible refine objQ_i (fun _ _ => ?_); repeat with_reducible refine imp_i (fun _ => ?_))))
        first | exact .inl ⟨trivial⟩ | exact .inl ⟨by decide⟩
    · exact absurd a1.out h0
  · obtain ⟨k1, k2, k3, k4, k5, k6, k7⟩ := begE_0 h0
    obtain ⟨bd1, bd2⟩ := allT_bd f w l
    have hne := allT_ne k4
    obtain ⟨L, hL⟩ := tms _ bd2
    have hof := fun (m : Nat → Option (Array MapEntry → Nat → Prop)) bm hb (t : Tm) => of_c load hl k1 k7 _ k6 tk (bm := bm) (m := m) hb t.v t.h
    have HB : Hid (bestF load f w l many = if many < 1 ∨ 64 < many then 2 else 0) := ⟨by unfold bestF; rw [h0]; rfl⟩
    obtain ⟨E, hE⟩ : ∃ E, bestF load f w l many = E := ⟨_, rfl⟩
    rw [hE] at HB ⊢
    simp only [h0, ← hL, fl_tms, List.length_map] at hb bd1 hne
    have HL := Hid.mk hL
    clear hE hL bd2 k1 k2 k3 k4 k5 k6 k7 h0
    unfold ofA at hb
    obtain ⟨n, hN⟩ : ∃ n, (lengthF l).1 = n := ⟨_, rfl⟩
    rw [hN] at hof
    simp only [hN] at hb ⊢
    clear hN
    obtain ⟨p, hp⟩ : ∃ p, costP load n = p := ⟨_, rfl⟩
    rw [hp] at hof
    simp only [hp] at hb ⊢
    clear hp
    by_cases c2 : many < 1 ∨ 64 < many
    · obtain rfl : E = 2 := by rw [HB.out, if_pos c2]
      refine VCalls.of v_cost_Best_ok (Nat.le_of_ble_eq_true rfl) ?_
      simp only [v_cost_Best, ↓vD, vU, ↓vMd, vMu, vZ, seval, k_app, k_slc1]
      (repeat' (first | (simp (maxDischargeDepth := 16) only [*, vX, ↓vD, vU, ↓vMd, vMu, vZ, seval]) | (simp (disch := first | assumption | omega | rfl | exact fun _ => rfl) only [vP]) | ((with_reducible first | apply gsnd | apply csnd | apply gsd | apply csd | apply gsn | apply csn | apply gs | apply cs_) <;> intro _) | (with_reducible refine objQ_i (fun _ _ => ?_); repeat with_reducible refine imp_i (fun _ => ?_))))
      rename_i b7 hb7
      refine callH_then (hb _).out ?_
      rintro r s (⟨a1, _, _⟩ | ⟨a1, b, c, rest, bm, ⟨n1, n2⟩, ⟨o1, o2⟩, a2, rfl, rfl⟩)
      · exact absurd rfl a1.out
      clear hb a1 hof
      simp only [ins_objs, ite_some_none] at o1 o2
      obtain ⟨o1a, o1b, o1⟩ := o1
      obtain ⟨o2a, o2b, o2⟩ := o2
      by_cases c3 : many < 1
      · (repeat' (first | (simp (maxDischargeDepth := 16) only [*, num, vX, ↓vD, vU, ↓vMd, vMu, vZ, seval]) | (simp (disch := first | assumption | omega | rfl | exact fun _ => rfl) only [num, vP]) | ((with_reducible first | apply gsnd | apply csnd | apply gsd | apply csd | apply gsn | apply csn | apply gs | apply cs_) <;> intro _) | (with_reducible refine objQ_i (fun _ _ => ?_); repeat with_reducible refine imp_i (fun _ => ?_))))
        first | exact .inl ⟨trivial⟩ | exact .inl ⟨by decide⟩
      · have c4 : 64 < many := by omega
        (repeat' (first | (simp (maxDischargeDepth := 16) only [*, num, vX, ↓vD, vU, ↓vMd, vMu, vZ, seval]) | (simp (disch := first | assumption | omega | rfl | exact fun _ => rfl) only [num, vP]) | ((with_reducible first | apply gsnd | apply csnd | apply gsd | apply csd | apply gsn | apply csn | apply gs | apply cs_) <;> intro _) | (with_reducible refine objQ_i (fun _ _ => ?_); repeat with_reducible refine imp_i (fun _ => ?_))))
        first | exact .inl ⟨trivial⟩ | exact .inl ⟨by decide⟩
    · obtain rfl : E = 0 := by rw [HB.out, if_neg c2]
      have c3 : ¬ many < 1 := by omega
      have c4 : ¬ 64 < many := by omega
      have hk0 : 0 ≤ min many (L.length : Int) := by omega
      have hk1 : min many (L.length : Int) ≤ L.length := by omega
      have HE : Hid ((min many (L.length : Int)).toNat = min many.toNat L.length) := ⟨by omega⟩
      refine (VCalls.of (K := fun r s => ∃ b c rest S, S.objs b = none ∧ st.le S ∧ L.length ≤ c ∧ r = .tup [.osl b (min many.toNat L.length) (min many.toNat L.length), .int .i64 0] ∧ s = ob S b Tm.a rest (sortT p L)) v_cost_Best_ok (Nat.le_of_ble_eq_true rfl) ?_).wk ?_
      · simp only [v_cost_Best, ↓vD, vU, ↓vMd, vMu, vZ, seval, k_app, k_slc1]
        (repeat' (first | (simp (maxDischargeDepth := 16) only [*, vX, ↓vD, vU, ↓vMd, vMu, vZ, seval]) | (simp (disch := first | assumption | omega | rfl | exact fun _ => rfl) only [vP]) | ((with_reducible first | apply gsnd | apply csnd | apply gsd | apply csd | apply gsn | apply csn | apply gs | apply cs_) <;> intro _) | (with_reducible refine objQ_i (fun _ _ => ?_); repeat with_reducible refine imp_i (fun _ => ?_))))
        rename_i b7 hb7
        refine callH_then (hb _).out ?_
        rintro r s (⟨a1, _, _⟩ | ⟨a1, b, c, rest, bm, ⟨n1, n2⟩, ⟨o1, o2⟩, a2, rfl, rfl⟩)
        · exact absurd rfl a1.out
        clear hb a1
        simp only [ins_objs, ite_some_none] at o1 o2
        obtain ⟨o1a, o1b, o1⟩ := o1
        obtain ⟨o2a, o2b, o2⟩ := o2
        (repeat' (first | (simp (maxDischargeDepth := 16) only [*, num, vX, ↓vD, vU, ↓vMd, vMu, vZ, seval]) | (simp (disch := first | assumption | omega | rfl | exact fun _ => rfl) only [num, vP]) | ((with_reducible first | apply gsnd | apply csnd | apply gsd | apply csd | apply gsn | apply csn | apply gs | apply cs_) <;> intro _) | (with_reducible refine objQ_i (fun _ _ => ?_); repeat with_reducible refine imp_i (fun _ => ?_))))
        rename_i b13 hb13 n3 n4 n5 n6 n7 n8
        obtain ⟨S, hS⟩ : ∃ S, (((st.ins b7 (.cells [.int .i64 w.m, .int .i64 w.c])).ins bm (memo (Value.int .i64) .i64 p)).ins b (.cells (fl Tm.a L ++ rest))).ins b13 (.cells [.clo 67 [] [.iptr (.agg [.sl (load.map Seg.a) tk, .mp bm]) 0, .iptr (.int .i64 n) 0]]) = S := ⟨_, rfl⟩
        have hob : S.objs b = some (.cells (fl Tm.a L ++ rest)) := by rw [← hS]; simp only [St.ins, *, if_true, if_false]
        have hmm : S.objs bm = some (memo (Value.int .i64) .i64 p) := by rw [← hS]; simp only [St.ins, *, if_true, if_false]
        have h13 : S.objs b13 = some (.cells [.clo 67 [] [.iptr (.agg [.sl (load.map Seg.a) tk, .mp bm]) 0, .iptr (.int .i64 n) 0]]) := by rw [← hS]; simp only [St.ins, *, if_true, if_false]
        have hle : Hid (st.le (S.del b)) := ⟨by
          rw [← hS]; refine ⟨fun i o h => ?_, fun x h => by simpa [St.ins, St.del] using h⟩
          have e1 : i ≠ b := fun e => by subst e; rw [o1] at h; cases h
          have e2 : i ≠ b7 := fun e => by subst e; rw [hb7] at h; cases h
          have e3 : i ≠ bm := fun e => by subst e; rw [o2] at h; cases h
          have e4 : i ≠ b13 := fun e => by subst e; rw [hb13] at h; cases h
          simp only [St.ins, St.del, e1, e2, e3, e4, if_false, h]⟩
        rw [hS]
        have hof2 := hof (mOf S) bm (fun st' h => mOf_at h hmm)
        have hsort := SoI64.sortStableQ (Z := Z) Tm.a Tm.ok Tm.ag (gf := 39) (fs := []) (cs := [.ptr b13 0]) (cmpT p) (swoT p) (Q := fun s => mOf s = mOf S ∧ s.objs b13 = some (.cells [.clo 67 [] [.iptr (.agg [.sl (load.map Seg.a) tk, .mp bm]) 0, .iptr (.int .i64 n) 0]])) (fun x y Y s hq => Best1_c (cs := [.iptr (.agg [.sl (load.map Seg.a) tk, .mp bm]) 0, .iptr (.int .i64 n) 0]) hof2 hq.1 hq.2 x y) S b L.length c (fun rest xs => ⟨mOf_ins (fun q => by rw [hob]; simp), by simp only [ob, St.ins, n7, n8, if_false]; exact h13⟩) rest L rfl (by omega)
        rw [show ob S b Tm.a rest L = S from ins_self hob] at hsort
        clear hof hof2 hmm h13
        refine callH_then hsort ?_
        rintro _ _ ⟨rfl, rfl⟩
        clear hsort
        have hlen : ∀ (b n c : Nat), vlen (.osl b n c) = some (.int .i64 n) := fun _ _ _ => rfl
        have hLc : (L.length : Int) ≤ c := by have := a2.out.1; omega
        have hmc : min many (L.length : Int) ≤ c := by omega
        have hcut := e_oslHM .i64 .i64 1 b L.length c (min many L.length) (min many L.length) hk0 hk1 (Int.le_refl _) hmc
        rw [HE.out] at hcut
        obtain ⟨S1, hS1⟩ : ∃ S1, st = S1 := ⟨_, rfl⟩
        (repeat' (first | (simp (maxDischargeDepth := 16) only [*, num, vX, ↓vD, vU, ↓vMd, vMu, vZ, seval]) | (simp (disch := first | assumption | omega | rfl | exact fun _ => rfl) only [num, vP]) | ((with_reducible first | apply gsnd | apply csnd | apply gsd | apply csd | apply gsn | apply csn | apply gs | apply cs_) <;> intro _) | (with_reducible refine objQ_i (fun _ _ => ?_); repeat with_reducible refine imp_i (fun _ => ?_))))
        refine ⟨_, St.le.refl _, b, c, rest, S.del b, by simp [St.del], ?_, by omega, rfl, ?_⟩
        · rw [← hS1]; exact hle.out
        · unfold ob sortT; rw [del_ins_]
      · rintro r s ⟨b, c, rest, S, hSb, hle, hc, rfl, rfl⟩
        have hw := Wk.freezeT (ob S b Tm.a rest (sortT p L)) (sz := 1) (b := b) (n := min many.toNat L.length) (c := min many.toNat L.length) Nat.zero_lt_one (xs := ((sortT p L).take many.toNat).map Tm.a) (rest := fl Tm.a ((sortT p L).drop many.toNat) ++ rest) (by
          simp only [ob, St.ins, if_true]
          have : fl Tm.a (sortT p L) = (((sortT p L).take many.toNat).map Tm.a).flatMap AV.cells ++ fl Tm.a ((sortT p L).drop many.toNat) := by
            unfold fl; rw [← List.flatMap_append, ← List.map_append, List.take_append_drop]
          rw [this, List.append_assoc]) (by rw [List.length_map, List.length_take]; unfold sortT; rw [len_sortS]) (by
          intro x hx; obtain ⟨y, _, rfl⟩ := List.mem_map.1 hx; rfl) [.int .i64 0]
        refine ⟨_, st, hw.trans (Wk.le ⟨fun i o h => ?_, fun k h => ?_⟩ _), rfl, .inr ⟨⟨rfl⟩, L, HL, rfl⟩⟩
        · have hne : i ≠ b := fun e => by subst e; have := hle.objs _ _ h; rw [hSb] at this; cases this
          simp only [ob, St.ins, St.del, hne, if_false]
          exact hle.objs _ _ h
        · exact hle.live _ h
theorem sortT_v (p : Int → Int) (L : List Tm) : (sortT p L).map Tm.v = bestL p (L.map Tm.v) := by
  unfold sortT bestL
  rw [sortS_map Tm.v (lt := ltB (cmpT p)) (lt' := ltP p) (fun x y => by rw [ltB_T]; rfl)]
def bestA (load f : List Seg) (w : Vec) (l : List Leg) (many : Int) : AV :=
  if bestF load f w l many = 0 then .tup [.sl (((bestL (costP load (lengthF l).1) (allT (beginsF f w l).1)).take many.toNat).map num) .no, num 0] else .tup [.sl [] .full, num (bestF load f w l many)]
theorem Best_v (load : List Seg) (hl : load.length ≤ 1000000) (f : List Seg) (hf : f.length ≤ 1000000) (w : Vec) (h1 : -9223372036854775808 ≤ w.m) (h2 : w.c ≤ 9223372036854775807) (l : List Leg) (hn : l.length ≤ 1000000000) (many : Int) (tk tk' tk2 : Tok) :
    VPure Try.prog 22 [.sl (load.map Seg.a) tk, .sl (f.map Seg.a) tk', .agg [.int .i64 w.m, .int .i64 w.c], .sl (l.map Leg.a) tk2, .int .i64 many] (bestA load f w l many) := fun Z st => by
  refine (Best_c load hl f hf w h1 h2 l hn many tk tk' tk2).mono ?_
  rintro r s ⟨rfl, h⟩
  refine ⟨?_, rfl⟩
  unfold bestA
  rcases h with ⟨a1, rfl⟩ | ⟨a1, L, a2, rfl⟩
  · rw [if_neg a1.out]
  · rw [if_pos a1.out, ← a2.out, ← sortT_v, ← List.map_take, List.map_map]; rfl
end Go.Proofs.Ytglekfgoadehbaa.V
end
section
set_option linter.unusedSimpArgs false
set_option linter.unusedVariables false
/- The compiled functions of the package liveryref17 (printed by Print.lean of this work). -/
namespace Go.Proofs.Ytglekfgoadehbaa.V
open Go Go.Proofs
def v_liveryref17_Same : VFn := ⟨.seq (.reg [⟨some 4, .mov (.c (.bool false)), none, [], []⟩])
(.seq (.seq (.reg [⟨some 6, .mov (.t 0), none, [], []⟩,
 ⟨some 7, .len (.t 6), none, [0], []⟩,
 ⟨some 8, .mov (.t 1), none, [], []⟩,
 ⟨some 9, .len (.t 8), none, [2], []⟩,
 ⟨some 10, .bin .neq (.t 7) (.t 9), none, [1, 3], []⟩])
(.cond (.t 10)
 (.seq (.reg [⟨some 4, .mov (.c (.bool false)), none, [], []⟩])
 (.ret))
 (.skip)))
(.seq (.seq (.reg [⟨some 5, .mov (.c (.int .i64 0)), none, [], []⟩])
(.block 0
 (.loop
 (.seq (.seq (.reg [⟨some 11, .mov (.t 5), none, [], []⟩,
 ⟨some 12, .mov (.t 0), none, [], []⟩,
 ⟨some 13, .len (.t 12), none, [1], []⟩,
 ⟨some 14, .bin .lss (.t 11) (.t 13), none, [0, 2], []⟩])
 (.cond (.t 14)
 (.skip)
 (.exit 0)))
 (.seq (.block 1
 (.seq (.dreg [⟨some 17, .mov (.t 0), none, [], []⟩,
 ⟨some 18, .mov (.t 5), none, [], []⟩,
 ⟨some 19, .iad 1 (.t 17) (.t 18), none, [0, 1], []⟩,
 ⟨some 20, .load 1 false (.t 19), none, [2], []⟩,
 ⟨some 21, .mov (.t 1), none, [], []⟩,
 ⟨some 22, .mov (.t 5), none, [], []⟩,
 ⟨some 23, .iad 1 (.t 21) (.t 22), none, [4, 5], []⟩,
 ⟨some 24, .load 1 false (.t 23), none, [6], []⟩,
 ⟨some 25, .bin .neq (.t 20) (.t 24), none, [3, 7], []⟩])
 (.cond (.t 25)
 (.seq (.reg [⟨some 4, .mov (.c (.bool false)), none, [], []⟩])
 (.ret))
 (.skip))))
 (.reg [⟨some 15, .mov (.t 5), none, [], []⟩,
 ⟨some 16, .bin .add (.t 15) (.c (.int .i64 1)), none, [0], []⟩,
 ⟨some 5, .mov (.t 16), none, [1, 0, 1], []⟩]))))))
(.seq (.reg [⟨some 4, .mov (.c (.bool true)), none, [], []⟩])
(.ret)))),
[.t 4], 26⟩
theorem v_liveryref17_Same_ok : compF Try.prog 29 = some v_liveryref17_Same := by kernel_rfl
end Go.Proofs.Ytglekfgoadehbaa.V
end
section
set_option linter.unusedSimpArgs false
set_option linter.unusedVariables false
/- The compiled functions of the package liverylaw17 (printed by Print.lean of this work). -/
namespace Go.Proofs.Ytglekfgoadehbaa.V
open Go Go.Proofs
def v_liverylaw17_CostOrder : VFn := ⟨.seq (.reg [⟨some 2, .box (.t 0), none, [], []⟩,
 ⟨some 3, .box (.t 1), none, [], []⟩,
 ⟨some 4, .mov (.c (.bool false)), none, [], []⟩])
(.seq (.seq (.reg [⟨some 14, .load 6 true (.t 2), none, [], []⟩,
 ⟨some 15, .call 20 [(.t 14)], none, [0], []⟩,
 ⟨some 16, .mov (.t 15), none, [1, 1], []⟩,
 ⟨some 17, .fad 2 (.t 2), some (16, false), [2], []⟩,
 ⟨some 18, .fad 0 (.t 17), some (16, false), [3, 2], []⟩,
 ⟨some 19, .load 1 false (.t 18), some (16, false), [4, 2], []⟩,
 ⟨some 20, .fad 2 (.t 2), some (16, false), [2], []⟩,
 ⟨some 21, .fad 1 (.t 20), some (16, false), [6, 2], []⟩,
 ⟨some 22, .load 1 false (.t 21), some (16, false), [7, 2], []⟩,
 ⟨some 23, .bin .geq (.t 19) (.t 22), some (16, false), [5, 8, 2], []⟩,
 ⟨some 24, .pick (.t 16) (.c (.bool true)) (.t 23), none, [2, 9], []⟩])
(.cond (.t 24)
 (.seq (.reg [⟨some 25, .call 21 [], none, [], []⟩,
 ⟨some 4, .mov (.t 25), none, [0, 0, 0], []⟩])
 (.ret))
 (.skip)))
(.seq (.reg [⟨some 27, .fad 0 (.t 2), none, [], []⟩,
 ⟨some 28, .load 1 false (.t 27), none, [0], []⟩,
 ⟨some 29, .fad 1 (.t 2), none, [], []⟩,
 ⟨some 30, .load 1 false (.t 29), none, [2], []⟩,
 ⟨some 31, .fad 2 (.t 2), none, [], []⟩,
 ⟨some 32, .load 2 true (.t 31), none, [4], []⟩,
 ⟨some 33, .fad 4 (.t 2), none, [], []⟩,
 ⟨some 34, .load 1 false (.t 33), none, [6], []⟩,
 ⟨some 35, .fad 5 (.t 2), none, [], []⟩,
 ⟨some 36, .load 1 false (.t 35), none, [8], []⟩,
 ⟨some 37, .call 22 [(.t 28), (.t 30), (.t 32), (.t 34), (.t 36)], none, [1, 3, 5, 7, 9], []⟩,
 ⟨some 26, .mov (.t 37), none, [10], []⟩,
 ⟨some 38, .ext (.t 26) 0, none, [11], []⟩,
 ⟨some 39, .ext (.t 26) 1, none, [11], []⟩,
 ⟨some 5, .mov (.t 38), none, [12, 10, 0, 1, 2, 3, 4, 5, 6, 7, 8, 9, 10, 11, 12], []⟩,
 ⟨some 6, .mov (.t 39), none, [13, 14, 0, 1, 2, 3, 4, 5, 6, 7, 8, 9, 10, 11, 12, 13, 14], []⟩])
(.seq (.seq (.reg [⟨some 40, .mov (.t 6), none, [], []⟩,
 ⟨some 41, .bin .neq (.t 40) (.c (.int .i64 0)), none, [0], []⟩])
(.cond (.t 41)
 (.seq (.reg [⟨some 42, .call 21 [], none, [], []⟩,
 ⟨some 4, .mov (.t 42), none, [0, 0, 0], []⟩])
 (.ret))
 (.skip)))
(.seq (.dreg [⟨some 44, .fad 0 (.t 2), none, [], []⟩,
 ⟨some 45, .load 1 false (.t 44), none, [0], []⟩,
 ⟨some 46, .fad 2 (.t 2), none, [], []⟩,
 ⟨some 47, .fad 0 (.t 46), none, [2], []⟩,
 ⟨some 48, .load 1 false (.t 47), none, [3], []⟩,
 ⟨some 49, .fad 2 (.t 2), none, [], []⟩,
 ⟨some 50, .fad 1 (.t 49), none, [5], []⟩,
 ⟨some 51, .load 1 false (.t 50), none, [6], []⟩,
 ⟨some 52, .iaa 2 1 (.t 3) (.c (.int .i64 0)), none, [], []⟩,
 ⟨some 53, .load 1 false (.t 52), none, [8], []⟩,
 ⟨some 54, .conv .i64 (.t 53), none, [9], []⟩,
 ⟨some 55, .iaa 2 1 (.t 3) (.c (.int .i64 1)), none, [], []⟩,
 ⟨some 56, .load 1 false (.t 55), none, [11], []⟩,
 ⟨some 57, .conv .i64 (.t 56), none, [12], []⟩,
 ⟨some 58, .call 28 [(.t 54), (.t 57)], none, [10, 13], []⟩,
 ⟨some 59, .call 27 [(.t 45), (.t 48), (.t 51), (.t 58)], none, [1, 4, 7, 14, 14], [(0, 0)]⟩,
 ⟨some 43, .mov (.t 59), none, [15], []⟩,
 ⟨some 60, .ext (.t 43) 0, none, [16], []⟩,
 ⟨some 61, .ext (.t 43) 1, none, [16], []⟩,
 ⟨some 7, .mov (.t 60), none, [17, 15, 0, 1, 2, 3, 4, 5, 6, 7, 8, 9, 10, 11, 12, 13, 14, 15, 16, 17], []⟩,
 ⟨some 8, .mov (.t 61), none, [18, 19, 0, 1, 2, 3, 4, 5, 6, 7, 8, 9, 10, 11, 12, 13, 14, 15, 16, 17, 18, 19], []⟩])
(.seq (.seq (.reg [⟨some 62, .mov (.t 8), none, [], []⟩,
 ⟨some 63, .bin .neq (.t 62) (.c (.int .i64 0)), none, [0], []⟩])
(.cond (.t 63)
 (.seq (.reg [⟨some 64, .call 21 [], none, [], []⟩,
 ⟨some 4, .mov (.t 64), none, [0, 0, 0], []⟩])
 (.ret))
 (.skip)))
(.seq (.reg [⟨some 66, .mov (.t 7), none, [], []⟩,
 ⟨some 67, .fad 1 (.t 2), none, [], []⟩,
 ⟨some 68, .load 1 false (.t 67), none, [1], []⟩,
 ⟨some 69, .fad 2 (.t 2), none, [], []⟩,
 ⟨some 70, .load 2 true (.t 69), none, [3], []⟩,
 ⟨some 71, .fad 4 (.t 2), none, [], []⟩,
 ⟨some 72, .load 1 false (.t 71), none, [5], []⟩,
 ⟨some 73, .fad 5 (.t 2), none, [], []⟩,
 ⟨some 74, .load 1 false (.t 73), none, [7], []⟩,
 ⟨some 75, .call 22 [(.t 66), (.t 68), (.t 70), (.t 72), (.t 74)], none, [0, 2, 4, 6, 8], []⟩,
 ⟨some 65, .mov (.t 75), none, [9], []⟩,
 ⟨some 76, .ext (.t 65) 0, none, [10], []⟩,
 ⟨some 77, .ext (.t 65) 1, none, [10], []⟩,
 ⟨some 9, .mov (.t 76), none, [11, 9, 0, 1, 2, 3, 4, 5, 6, 7, 8, 9, 10, 11], []⟩,
 ⟨some 10, .mov (.t 77), none, [12, 13, 0, 1, 2, 3, 4, 5, 6, 7, 8, 9, 10, 11, 12, 13], []⟩])
(.seq (.seq (.reg [⟨some 78, .mov (.t 10), none, [], []⟩,
 ⟨some 79, .bin .eql (.t 78) (.c (.int .i64 10)), none, [0], []⟩])
(.cond (.t 79)
 (.seq (.reg [⟨some 80, .call 21 [], none, [], []⟩,
 ⟨some 4, .mov (.t 80), none, [0, 0, 0], []⟩])
 (.ret))
 (.skip)))
(.seq (.seq (.reg [⟨some 81, .mov (.t 10), none, [], []⟩,
 ⟨some 82, .bin .neq (.t 81) (.c (.int .i64 0)), none, [0], []⟩,
 ⟨some 83, .mov (.t 82), none, [1], []⟩,
 ⟨some 84, .mov (.t 5), some (83, false), [2], []⟩,
 ⟨some 85, .mov (.t 9), some (83, false), [2], []⟩,
 ⟨some 86, .call 29 [(.t 84), (.t 85)], some (83, false), [3, 4, 2, 2], []⟩,
 ⟨some 87, .un .not (.t 86), some (83, false), [5, 2], []⟩,
 ⟨some 88, .pick (.t 83) (.c (.bool true)) (.t 87), none, [2, 6], []⟩])
(.cond (.t 88)
 (.seq (.reg [⟨some 4, .mov (.c (.bool false)), none, [], []⟩])
 (.ret))
 (.skip)))
(.seq (.reg [⟨some 90, .fad 1 (.t 2), none, [], []⟩,
 ⟨some 91, .load 1 false (.t 90), none, [0], []⟩,
 ⟨some 92, .fad 2 (.t 2), none, [], []⟩,
 ⟨some 93, .load 2 true (.t 92), none, [2], []⟩,
 ⟨some 94, .fad 4 (.t 2), none, [], []⟩,
 ⟨some 95, .load 1 false (.t 94), none, [4], []⟩,
 ⟨some 96, .fad 5 (.t 2), none, [], []⟩,
 ⟨some 97, .load 1 false (.t 96), none, [6], []⟩,
 ⟨some 98, .call 22 [(.c (.sl [] .full)), (.t 91), (.t 93), (.t 95), (.t 97)], none, [1, 3, 5, 7], []⟩,
 ⟨some 89, .mov (.t 98), none, [8], []⟩,
 ⟨some 99, .ext (.t 89) 0, none, [9], []⟩,
 ⟨some 100, .ext (.t 89) 1, none, [9], []⟩,
 ⟨some 11, .mov (.t 99), none, [10, 8, 0, 1, 2, 3, 4, 5, 6, 7, 8, 9, 10], []⟩,
 ⟨some 12, .mov (.t 100), none, [11, 12, 0, 1, 2, 3, 4, 5, 6, 7, 8, 9, 10, 11, 12], []⟩])
(.seq (.reg [⟨some 101, .fad 1 (.t 2), none, [], []⟩,
 ⟨some 102, .load 1 false (.t 101), none, [0], []⟩,
 ⟨some 103, .fad 2 (.t 2), none, [], []⟩,
 ⟨some 104, .load 2 true (.t 103), none, [2], []⟩,
 ⟨some 105, .fad 4 (.t 2), none, [], []⟩,
 ⟨some 106, .load 1 false (.t 105), none, [4], []⟩,
 ⟨some 107, .call 30 [(.t 102), (.t 104), (.t 106)], none, [1, 3, 5], []⟩,
 ⟨some 13, .mov (.t 107), none, [6, 6, 0, 1, 2, 3, 4, 5, 6], []⟩])
(.seq (.reg [⟨some 108, .mov (.t 12), none, [], []⟩,
 ⟨some 109, .bin .eql (.t 108) (.c (.int .i64 0)), none, [0], []⟩,
 ⟨some 110, .mov (.t 109), none, [1], []⟩,
 ⟨some 111, .mov (.t 11), some (110, true), [2], []⟩,
 ⟨some 112, .mov (.t 13), some (110, true), [2], []⟩,
 ⟨some 113, .fad 5 (.t 2), some (110, true), [2], []⟩,
 ⟨some 114, .load 1 false (.t 113), some (110, true), [5, 2], []⟩,
 ⟨some 115, .mov (.t 13), some (110, true), [2], []⟩,
 ⟨some 116, .len (.t 115), some (110, true), [7, 2], []⟩,
 ⟨some 117, .mnx true (.t 114) [(.t 116)], some (110, true), [6, 8, 2], []⟩,
 ⟨some 118, .slc 1 (.t 112) none (some (.t 117)) none, some (110, true), [4, 9, 2], []⟩,
 ⟨some 119, .call 29 [(.t 111), (.t 118)], some (110, true), [3, 10, 2, 2], []⟩,
 ⟨some 120, .pick (.t 110) (.t 119) (.c (.bool false)), none, [2, 11], []⟩,
 ⟨some 121, .mov (.t 120), none, [12, 11], []⟩,
 ⟨some 122, .call 21 [], some (121, true), [13, 13], []⟩,
 ⟨some 123, .pick (.t 121) (.t 122) (.c (.bool false)), none, [13, 14], []⟩,
 ⟨some 4, .mov (.t 123), none, [15, 14, 0, 1, 2, 3, 4, 5, 6, 7, 8, 9, 10, 11, 12, 13, 14, 15], []⟩])
(.ret)))))))))))),
[.t 4], 124⟩
theorem v_liverylaw17_CostOrder_ok : compF Try.prog 8 = some v_liverylaw17_CostOrder := by kernel_rfl
def v_liverylaw17_great : VFn := ⟨.seq (.reg [⟨some 1, .box (.t 0), none, [], []⟩,
 ⟨some 2, .mov (.c (.bool false)), none, [], []⟩])
(.seq (.seq (.reg [⟨some 5, .fad 0 (.t 1), none, [], []⟩,
 ⟨some 6, .load 1 false (.t 5), none, [0], []⟩,
 ⟨some 7, .len (.t 6), none, [1], []⟩,
 ⟨some 8, .bin .gtr (.t 7) (.c (.int .i64 60)), none, [2], []⟩,
 ⟨some 9, .mov (.t 8), none, [3], []⟩,
 ⟨some 10, .fad 1 (.t 1), some (9, false), [4], []⟩,
 ⟨some 11, .load 1 false (.t 10), some (9, false), [5, 4], []⟩,
 ⟨some 12, .len (.t 11), some (9, false), [6, 4], []⟩,
 ⟨some 13, .bin .gtr (.t 12) (.c (.int .i64 60)), some (9, false), [7, 4], []⟩,
 ⟨some 14, .pick (.t 9) (.c (.bool true)) (.t 13), none, [4, 8], []⟩,
 ⟨some 15, .mov (.t 14), none, [9, 4], []⟩,
 ⟨some 16, .fad 4 (.t 1), some (15, false), [10], []⟩,
 ⟨some 17, .load 1 false (.t 16), some (15, false), [11, 10], []⟩,
 ⟨some 18, .len (.t 17), some (15, false), [12, 10], []⟩,
 ⟨some 19, .bin .gtr (.t 18) (.c (.int .i64 20)), some (15, false), [13, 10], []⟩,
 ⟨some 20, .pick (.t 15) (.c (.bool true)) (.t 19), none, [10, 14], []⟩,
 ⟨some 21, .mov (.t 20), none, [15, 10], []⟩,
 ⟨some 22, .fad 2 (.t 1), some (21, false), [16], []⟩,
 ⟨some 23, .fad 0 (.t 22), some (21, false), [17, 16], []⟩,
 ⟨some 24, .load 1 false (.t 23), some (21, false), [18, 16], []⟩,
 ⟨some 25, .fad 2 (.t 1), some (21, false), [16], []⟩,
 ⟨some 26, .fad 1 (.t 25), some (21, false), [20, 16], []⟩,
 ⟨some 27, .load 1 false (.t 26), some (21, false), [21, 16], []⟩,
 ⟨some 28, .bin .lss (.t 24) (.t 27), some (21, false), [19, 22, 16], []⟩,
 ⟨some 29, .mov (.t 28), some (21, false), [23, 16, 16], []⟩,
 ⟨some 30, .fad 2 (.t 1), some (29, true), [24], []⟩,
 ⟨some 31, .fad 1 (.t 30), some (29, true), [25, 24], []⟩,
 ⟨some 32, .load 1 false (.t 31), some (29, true), [26, 24], []⟩,
 ⟨some 33, .fad 2 (.t 1), some (29, true), [24], []⟩,
 ⟨some 34, .fad 0 (.t 33), some (29, true), [28, 24], []⟩,
 ⟨some 35, .load 1 false (.t 34), some (29, true), [29, 24], []⟩,
 ⟨some 36, .bin .sub (.t 32) (.t 35), some (29, true), [27, 30, 24], []⟩,
 ⟨some 37, .bin .gtr (.t 36) (.c (.int .i64 150)), some (29, true), [31, 24], []⟩,
 ⟨some 38, .pick (.t 29) (.t 37) (.c (.bool false)), some (21, false), [24, 32, 16], []⟩,
 ⟨some 39, .mov (.t 38), some (21, false), [33, 24, 16], []⟩,
 ⟨some 40, .fad 2 (.t 1), some (39, true), [34], []⟩,
 ⟨some 41, .fad 1 (.t 40), some (39, true), [35, 34], []⟩,
 ⟨some 42, .load 1 false (.t 41), some (39, true), [36, 34], []⟩,
 ⟨some 43, .fad 2 (.t 1), some (39, true), [34], []⟩,
 ⟨some 44, .fad 0 (.t 43), some (39, true), [38, 34], []⟩,
 ⟨some 45, .load 1 false (.t 44), some (39, true), [39, 34], []⟩,
 ⟨some 46, .bin .sub (.t 42) (.t 45), some (39, true), [37, 40, 34], []⟩,
 ⟨some 47, .bin .leq (.t 46) (.c (.int .i64 4096)), some (39, true), [41, 34], []⟩,
 ⟨some 48, .pick (.t 39) (.t 47) (.c (.bool false)), some (21, false), [34, 42, 16], []⟩,
 ⟨some 49, .pick (.t 21) (.c (.bool true)) (.t 48), none, [16, 43], []⟩])
(.cond (.t 49)
 (.seq (.reg [⟨some 2, .mov (.c (.bool true)), none, [], []⟩])
 (.ret))
 (.skip)))
(.seq (.reg [⟨some 3, .mov (.c (.int .i64 0)), none, [], []⟩])
(.seq (.seq (.reg [⟨some 4, .mov (.c (.int .i64 0)), none, [], []⟩])
(.block 0
 (.loop
 (.seq (.seq (.reg [⟨some 50, .mov (.t 4), none, [], []⟩,
 ⟨some 51, .fad 4 (.t 1), none, [], []⟩,
 ⟨some 52, .load 1 false (.t 51), none, [1], []⟩,
 ⟨some 53, .len (.t 52), none, [2], []⟩,
 ⟨some 54, .bin .lss (.t 50) (.t 53), none, [0, 3], []⟩])
 (.cond (.t 54)
 (.skip)
 (.exit 0)))
 (.seq (.block 1
 (.seq (.reg [⟨some 57, .fad 4 (.t 1), none, [], []⟩,
 ⟨some 58, .load 1 false (.t 57), none, [0], []⟩,
 ⟨some 59, .mov (.t 4), none, [], []⟩,
 ⟨some 60, .iad 3 (.t 58) (.t 59), none, [1, 2], []⟩,
 ⟨some 61, .fad 0 (.t 60), none, [3], []⟩,
 ⟨some 62, .load 1 false (.t 61), none, [4], []⟩,
 ⟨some 63, .bin .gtr (.t 62) (.c (.int .i64 0)), none, [5], []⟩,
 ⟨some 64, .mov (.t 63), none, [6], []⟩,
 ⟨some 65, .fad 4 (.t 1), some (64, true), [7], []⟩,
 ⟨some 66, .load 1 false (.t 65), some (64, true), [8, 7], []⟩,
 ⟨some 67, .mov (.t 4), some (64, true), [7], []⟩,
 ⟨some 68, .iad 3 (.t 66) (.t 67), some (64, true), [9, 10, 7], []⟩,
 ⟨some 69, .fad 0 (.t 68), some (64, true), [11, 7], []⟩,
 ⟨some 70, .load 1 false (.t 69), some (64, true), [12, 7], []⟩,
 ⟨some 71, .bin .leq (.t 70) (.c (.int .i64 4096)), some (64, true), [13, 7], []⟩,
 ⟨some 72, .pick (.t 64) (.t 71) (.c (.bool false)), none, [7, 14], []⟩])
 (.cond (.t 72)
 (.reg [⟨some 73, .mov (.t 3), none, [], []⟩,
 ⟨some 74, .fad 4 (.t 1), none, [], []⟩,
 ⟨some 75, .load 1 false (.t 74), none, [1], []⟩,
 ⟨some 76, .mov (.t 4), none, [], []⟩,
 ⟨some 77, .iad 3 (.t 75) (.t 76), none, [2, 3], []⟩,
 ⟨some 78, .fad 0 (.t 77), none, [4], []⟩,
 ⟨some 79, .load 1 false (.t 78), none, [5], []⟩,
 ⟨some 80, .bin .add (.t 73) (.t 79), none, [0, 6], []⟩,
 ⟨some 3, .mov (.t 80), none, [7, 0, 1, 2, 3, 4, 5, 6, 7], []⟩])
 (.skip))))
 (.reg [⟨some 55, .mov (.t 4), none, [], []⟩,
 ⟨some 56, .bin .add (.t 55) (.c (.int .i64 1)), none, [0], []⟩,
 ⟨some 4, .mov (.t 56), none, [1, 0, 1], []⟩]))))))
(.seq (.reg [⟨some 81, .mov (.t 3), none, [], []⟩,
 ⟨some 82, .bin .gtr (.t 81) (.c (.int .i64 9000)), none, [0], []⟩,
 ⟨some 2, .mov (.t 82), none, [1, 0, 1], []⟩])
(.ret))))),
[.t 2], 83⟩
theorem v_liverylaw17_great_ok : compF Try.prog 20 = some v_liverylaw17_great := by kernel_rfl
def v_liverylaw17_head : VFn := ⟨.seq (.reg [⟨some 0, .mov (.c (.bool false)), none, [], []⟩])
(.seq (.reg [⟨some 23, .call 28 [(.c (.int .i64 5)), (.c (.int .i64 5))], none, [], []⟩,
 ⟨some 24, .build [(.int .i64 0), (.int .i64 0), (.int .i64 0)] [(1, 2, (.t 23))], none, [0], []⟩,
 ⟨some 25, .build [(.int .i64 0), (.int .i64 0), (.int .i64 0)] [(0, 1, (.c (.int .i64 30)))], none, [], []⟩,
 ⟨some 26, .bsl 3 [(.t 24), (.t 25)], none, [1, 2], []⟩,
 ⟨some 1, .mov (.t 26), none, [3, 0, 0, 1, 2, 3], []⟩])
(.seq (.reg [⟨some 27, .call 28 [(.c (.int .i64 3)), (.c (.int .i64 1))], none, [], []⟩,
 ⟨some 28, .build [(.int .i64 0), (.int .i64 0), (.int .i64 0)] [(1, 2, (.t 27))], none, [0], []⟩,
 ⟨some 29, .call 28 [(.c (.int .i64 1)), (.c (.int .i64 0))], none, [0], []⟩,
 ⟨some 30, .build [(.int .i64 0), (.int .i64 0), (.int .i64 0)] [(0, 1, (.c (.int .i64 8))), (1, 2, (.t 29))], none, [2], []⟩,
 ⟨some 31, .call 28 [(.c (.int .i64 4)), (.c (.int .i64 4))], none, [2], []⟩,
 ⟨some 32, .build [(.int .i64 0), (.int .i64 0), (.int .i64 0)] [(0, 1, (.c (.int .i64 12))), (1, 2, (.t 31))], none, [4], []⟩,
 ⟨some 33, .build [(.int .i64 0), (.int .i64 0), (.int .i64 0)] [(0, 1, (.c (.int .i64 20)))], none, [], []⟩,
 ⟨some 34, .bsl 3 [(.t 28), (.t 30), (.t 32), (.t 33)], none, [1, 3, 5, 6], []⟩,
 ⟨some 2, .mov (.t 34), none, [7, 4, 0, 1, 2, 3, 4, 5, 6, 7], []⟩])
(.seq (.reg [⟨some 35, .call 28 [(.c (.int .i64 1)), (.c (.int .i64 1))], none, [], []⟩,
 ⟨some 36, .build [(.int .i64 0), (.int .i64 0), (.int .i64 0)] [(0, 1, (.c (.int .i64 4))), (1, 2, (.t 35))], none, [0], []⟩,
 ⟨some 37, .bsl 3 [(.t 36)], none, [1], []⟩,
 ⟨some 3, .mov (.t 37), none, [2, 0, 0, 1, 2], []⟩])
(.seq (.reg [⟨some 39, .mov (.t 2), none, [], []⟩,
 ⟨some 40, .mov (.t 3), none, [], []⟩,
 ⟨some 41, .call 25 [(.t 39), (.c (.int .i64 0)), (.t 40)], none, [0, 1], []⟩,
 ⟨some 38, .mov (.t 41), none, [2], []⟩,
 ⟨some 42, .ext (.t 38) 0, none, [3], []⟩,
 ⟨some 43, .ext (.t 38) 1, none, [3], []⟩,
 ⟨some 4, .mov (.t 42), none, [4, 2, 0, 1, 2, 3, 4], []⟩,
 ⟨some 5, .mov (.t 43), none, [5, 6, 0, 1, 2, 3, 4, 5, 6], []⟩])
(.seq (.reg [⟨some 45, .mov (.t 2), none, [], []⟩,
 ⟨some 46, .mov (.t 3), none, [], []⟩,
 ⟨some 47, .call 25 [(.t 45), (.c (.int .i64 6)), (.t 46)], none, [0, 1], []⟩,
 ⟨some 44, .mov (.t 47), none, [2], []⟩,
 ⟨some 48, .ext (.t 44) 0, none, [3], []⟩,
 ⟨some 49, .ext (.t 44) 1, none, [3], []⟩,
 ⟨some 6, .mov (.t 48), none, [4, 2, 0, 1, 2, 3, 4], []⟩,
 ⟨some 7, .mov (.t 49), none, [5, 6, 0, 1, 2, 3, 4, 5, 6], []⟩])
(.seq (.reg [⟨some 51, .mov (.t 2), none, [], []⟩,
 ⟨some 52, .mov (.t 1), none, [], []⟩,
 ⟨some 53, .build [(.int .i64 0), (.int .i64 0)] [(1, 1, (.c (.int .i64 30)))], none, [], []⟩,
 ⟨some 54, .mov (.t 3), none, [], []⟩,
 ⟨some 55, .call 24 [(.t 51), (.t 52), (.t 53), (.t 54)], none, [0, 1, 2, 3], []⟩,
 ⟨some 50, .mov (.t 55), none, [4], []⟩,
 ⟨some 56, .ext (.t 50) 0, none, [5], []⟩,
 ⟨some 57, .ext (.t 50) 1, none, [5], []⟩,
 ⟨some 58, .ext (.t 50) 2, none, [5], []⟩,
 ⟨some 8, .mov (.t 56), none, [6, 4, 0, 1, 2, 3, 4, 5, 6], []⟩,
 ⟨some 9, .mov (.t 57), none, [7, 9, 0, 1, 2, 3, 4, 5, 6, 7, 9], []⟩,
 ⟨some 10, .mov (.t 58), none, [8, 10, 0, 1, 2, 3, 4, 5, 6, 7, 8, 9, 10], []⟩])
(.seq (.reg [⟨some 60, .mov (.t 2), none, [], []⟩,
 ⟨some 61, .mov (.t 1), none, [], []⟩,
 ⟨some 62, .build [(.int .i64 0), (.int .i64 0)] [(1, 1, (.c (.int .i64 18)))], none, [], []⟩,
 ⟨some 63, .mov (.t 3), none, [], []⟩,
 ⟨some 64, .call 24 [(.t 60), (.t 61), (.t 62), (.t 63)], none, [0, 1, 2, 3], []⟩,
 ⟨some 59, .mov (.t 64), none, [4], []⟩,
 ⟨some 65, .ext (.t 59) 0, none, [5], []⟩,
 ⟨some 66, .ext (.t 59) 1, none, [5], []⟩,
 ⟨some 67, .ext (.t 59) 2, none, [5], []⟩,
 ⟨some 11, .mov (.t 65), none, [6, 4, 0, 1, 2, 3, 4, 5, 6], []⟩,
 ⟨some 12, .mov (.t 66), none, [7, 9, 0, 1, 2, 3, 4, 5, 6, 7, 9], []⟩,
 ⟨some 13, .mov (.t 67), none, [8, 10, 0, 1, 2, 3, 4, 5, 6, 7, 8, 9, 10], []⟩])
(.seq (.reg [⟨some 69, .mov (.t 2), none, [], []⟩,
 ⟨some 70, .mov (.t 1), none, [], []⟩,
 ⟨some 71, .build [(.int .i64 0), (.int .i64 0)] [(1, 1, (.c (.int .i64 18)))], none, [], []⟩,
 ⟨some 72, .mov (.t 3), none, [], []⟩,
 ⟨some 73, .call 22 [(.t 69), (.t 70), (.t 71), (.t 72), (.c (.int .i64 3))], none, [0, 1, 2, 3], []⟩,
 ⟨some 68, .mov (.t 73), none, [4], []⟩,
 ⟨some 74, .ext (.t 68) 0, none, [5], []⟩,
 ⟨some 75, .ext (.t 68) 1, none, [5], []⟩,
 ⟨some 14, .mov (.t 74), none, [6, 4, 0, 1, 2, 3, 4, 5, 6], []⟩,
 ⟨some 15, .mov (.t 75), none, [7, 8, 0, 1, 2, 3, 4, 5, 6, 7, 8], []⟩])
(.seq (.reg [⟨some 77, .mov (.t 2), none, [], []⟩,
 ⟨some 78, .mov (.t 1), none, [], []⟩,
 ⟨some 79, .build [(.int .i64 0), (.int .i64 0)] [(1, 1, (.c (.int .i64 18)))], none, [], []⟩,
 ⟨some 80, .mov (.t 3), none, [], []⟩,
 ⟨some 81, .call 22 [(.t 77), (.t 78), (.t 79), (.t 80), (.c (.int .i64 65))], none, [0, 1, 2, 3], []⟩,
 ⟨some 76, .mov (.t 81), none, [4], []⟩,
 ⟨some 82, .ext (.t 76) 0, none, [5], []⟩,
 ⟨some 83, .ext (.t 76) 1, none, [5], []⟩,
 ⟨some 16, .mov (.t 82), none, [6, 4, 0, 1, 2, 3, 4, 5, 6], []⟩,
 ⟨some 17, .mov (.t 83), none, [7, 8, 0, 1, 2, 3, 4, 5, 6, 7, 8], []⟩])
(.seq (.reg [⟨some 85, .mov (.t 2), none, [], []⟩,
 ⟨some 86, .call 25 [(.t 85), (.c (.int .i64 0)), (.c (.sl [] .full))], none, [0], []⟩,
 ⟨some 84, .mov (.t 86), none, [1], []⟩,
 ⟨some 87, .ext (.t 84) 0, none, [2], []⟩,
 ⟨some 88, .ext (.t 84) 1, none, [2], []⟩,
 ⟨some 18, .mov (.t 87), none, [3, 1, 0, 1, 2, 3], []⟩,
 ⟨some 19, .mov (.t 88), none, [4, 5, 0, 1, 2, 3, 4, 5], []⟩])
(.seq (.reg [⟨some 90, .mov (.t 2), none, [], []⟩,
 ⟨some 91, .build [(.int .i64 0), (.int .i64 0)] [(1, 1, (.c (.int .i64 18)))], none, [], []⟩,
 ⟨some 92, .mov (.t 3), none, [], []⟩,
 ⟨some 93, .call 24 [(.t 90), (.c (.sl [] .full)), (.t 91), (.t 92)], none, [0, 1, 2], []⟩,
 ⟨some 89, .mov (.t 93), none, [3], []⟩,
 ⟨some 94, .ext (.t 89) 0, none, [4], []⟩,
 ⟨some 95, .ext (.t 89) 1, none, [4], []⟩,
 ⟨some 96, .ext (.t 89) 2, none, [4], []⟩,
 ⟨some 20, .mov (.t 94), none, [5, 3, 0, 1, 2, 3, 4, 5], []⟩,
 ⟨some 21, .mov (.t 95), none, [6, 8, 0, 1, 2, 3, 4, 5, 6, 8], []⟩,
 ⟨some 22, .mov (.t 96), none, [7, 9, 0, 1, 2, 3, 4, 5, 6, 7, 8, 9], []⟩])
(.seq (.reg [⟨some 97, .mov (.t 4), none, [], []⟩,
 ⟨some 98, .bin .eql (.t 97) (.c (.int .i64 16)), none, [0], []⟩,
 ⟨some 99, .mov (.t 98), none, [1], []⟩,
 ⟨some 100, .mov (.t 5), some (99, true), [2], []⟩,
 ⟨some 101, .bin .eql (.t 100) (.c (.int .i64 0)), some (99, true), [3, 2], []⟩,
 ⟨some 102, .pick (.t 99) (.t 101) (.c (.bool false)), none, [2, 4], []⟩,
 ⟨some 103, .mov (.t 102), none, [5, 2], []⟩,
 ⟨some 104, .mov (.t 6), some (103, true), [6], []⟩,
 ⟨some 105, .bin .eql (.t 104) (.c (.int .i64 10)), some (103, true), [7, 6], []⟩,
 ⟨some 106, .pick (.t 103) (.t 105) (.c (.bool false)), none, [6, 8], []⟩,
 ⟨some 107, .mov (.t 106), none, [9, 6], []⟩,
 ⟨some 108, .mov (.t 7), some (107, true), [10], []⟩,
 ⟨some 109, .bin .eql (.t 108) (.c (.int .i64 0)), some (107, true), [11, 10], []⟩,
 ⟨some 110, .pick (.t 107) (.t 109) (.c (.bool false)), none, [10, 12], []⟩,
 ⟨some 111, .mov (.t 110), none, [13, 10], []⟩,
 ⟨some 112, .mov (.t 8), some (111, true), [14], []⟩,
 ⟨some 113, .bin .eql (.t 112) (.c (.int .i64 20)), some (111, true), [15, 14], []⟩,
 ⟨some 114, .pick (.t 111) (.t 113) (.c (.bool false)), none, [14, 16], []⟩,
 ⟨some 115, .mov (.t 114), none, [17, 14], []⟩,
 ⟨some 116, .mov (.t 9), some (115, true), [18], []⟩,
 ⟨some 117, .bin .eql (.t 116) (.c (.int .i64 0)), some (115, true), [19, 18], []⟩,
 ⟨some 118, .pick (.t 115) (.t 117) (.c (.bool false)), none, [18, 20], []⟩,
 ⟨some 119, .mov (.t 118), none, [21, 18], []⟩,
 ⟨some 120, .mov (.t 10), some (119, true), [22], []⟩,
 ⟨some 121, .bin .eql (.t 120) (.c (.int .i64 0)), some (119, true), [23, 22], []⟩,
 ⟨some 122, .pick (.t 119) (.t 121) (.c (.bool false)), none, [22, 24], []⟩,
 ⟨some 123, .mov (.t 122), none, [25, 22], []⟩,
 ⟨some 124, .mov (.t 11), some (123, true), [26], []⟩,
 ⟨some 125, .bin .eql (.t 124) (.c (.int .i64 8)), some (123, true), [27, 26], []⟩,
 ⟨some 126, .pick (.t 123) (.t 125) (.c (.bool false)), none, [26, 28], []⟩,
 ⟨some 127, .mov (.t 126), none, [29, 26], []⟩,
 ⟨some 128, .mov (.t 12), some (127, true), [30], []⟩,
 ⟨some 129, .bin .eql (.t 128) (.c (.int .i64 4)), some (127, true), [31, 30], []⟩,
 ⟨some 130, .pick (.t 127) (.t 129) (.c (.bool false)), none, [30, 32], []⟩,
 ⟨some 131, .mov (.t 130), none, [33, 30], []⟩,
 ⟨some 132, .mov (.t 13), some (131, true), [34], []⟩,
 ⟨some 133, .bin .eql (.t 132) (.c (.int .i64 0)), some (131, true), [35, 34], []⟩,
 ⟨some 134, .pick (.t 131) (.t 133) (.c (.bool false)), none, [34, 36], []⟩,
 ⟨some 135, .mov (.t 134), none, [37, 34], []⟩,
 ⟨some 136, .mov (.t 14), some (135, true), [38], []⟩,
 ⟨some 137, .bsl 1 [(.c (.int .i64 8)), (.c (.int .i64 7)), (.c (.int .i64 6))], some (135, true), [38], []⟩,
 ⟨some 138, .call 29 [(.t 136), (.t 137)], some (135, true), [39, 40, 38, 38], []⟩,
 ⟨some 139, .pick (.t 135) (.t 138) (.c (.bool false)), none, [38, 41], []⟩,
 ⟨some 140, .mov (.t 139), none, [42, 41], []⟩,
 ⟨some 141, .mov (.t 15), some (140, true), [43], []⟩,
 ⟨some 142, .bin .eql (.t 141) (.c (.int .i64 0)), some (140, true), [44, 43], []⟩,
 ⟨some 143, .pick (.t 140) (.t 142) (.c (.bool false)), none, [43, 45], []⟩,
 ⟨some 144, .mov (.t 143), none, [46, 43], []⟩,
 ⟨some 145, .mov (.t 17), some (144, true), [47], []⟩,
 ⟨some 146, .bin .eql (.t 145) (.c (.int .i64 2)), some (144, true), [48, 47], []⟩,
 ⟨some 147, .pick (.t 144) (.t 146) (.c (.bool false)), none, [47, 49], []⟩,
 ⟨some 148, .mov (.t 147), none, [50, 47], []⟩,
 ⟨some 149, .mov (.t 19), some (148, true), [51], []⟩,
 ⟨some 150, .bin .eql (.t 149) (.c (.int .i64 2)), some (148, true), [52, 51], []⟩,
 ⟨some 151, .pick (.t 148) (.t 150) (.c (.bool false)), none, [51, 53], []⟩,
 ⟨some 152, .mov (.t 151), none, [54, 51], []⟩,
 ⟨some 153, .mov (.t 22), some (152, true), [55], []⟩,
 ⟨some 154, .bin .eql (.t 153) (.c (.int .i64 210)), some (152, true), [56, 55], []⟩,
 ⟨some 155, .pick (.t 152) (.t 154) (.c (.bool false)), none, [55, 57], []⟩,
 ⟨some 0, .mov (.t 155), none, [58, 55, 0, 1, 2, 3, 4, 5, 6, 7, 8, 9, 10, 11, 12, 13, 14, 15, 16, 17, 18, 19, 20, 21, 22, 23, 24, 25, 26, 27, 28, 29, 30, 31, 32, 33, 34, 35, 36, 37, 38, 39, 40, 41, 42, 43, 44, 45, 46, 47, 48, 49, 50, 51, 52, 53, 54, 55, 56, 57, 58], []⟩])
(.ret))))))))))))),
[.t 0], 156⟩
theorem v_liverylaw17_head_ok : compF Try.prog 21 = some v_liverylaw17_head := by kernel_rfl
def v_liverylaw17_vec : VFn := ⟨.seq (.reg [⟨some 4, .alloc [(.int .i64 0), (.int .i64 0)], none, [], []⟩])
(.seq (.reg [⟨some 5, .mov (.t 0), none, [], []⟩,
 ⟨some 6, .mov (.t 1), none, [], []⟩,
 ⟨some 7, .build [(.int .i64 0), (.int .i64 0)] [(0, 1, (.t 5)), (1, 1, (.t 6))], none, [0, 1], []⟩,
 ⟨none, .store 2 (.t 4) (.t 7), none, [2, 0, 1, 2], []⟩])
(.ret)),
[.c 4 2 true], 8⟩
theorem v_liverylaw17_vec_ok : compF Try.prog 28 = some v_liverylaw17_vec := by kernel_rfl
end Go.Proofs.Ytglekfgoadehbaa.V
end
section
set_option linter.unusedSimpArgs false
set_option linter.unusedVariables false
/- liveryref17.Same; liverylaw17.vec, great, head. -/
namespace Go.Proofs.Ytglekfgoadehbaa.V
open Go Go.Proofs
set_option maxRecDepth 100000
set_option maxHeartbeats 4000000
theorem Same_17 (a b : List Int) (ha : a.length ≤ 1000000000) (t t' : Tok) : VPure Try.prog 29 [.sl (a.map num) t, .sl (b.map num) t'] (.bool (a == b)) := by
  refine VPure.of v_liveryref17_Same_ok (Nat.le_of_ble_eq_true rfl) (fun Z st => ?_)
  simp only [v_liveryref17_Same, ↓vD, vU, ↓vMd, vMu, vZ, seval, k_app, k_slc1]
  (repeat' (first | (simp (maxDischargeDepth := 16) only [*, vX, ↓vD, vU, ↓vMd, vMu, vZ, seval]) | (simp (disch := first | assumption | omega | rfl | exact fun _ => rfl) only [vP]) | ((with_reducible first | apply gsnd | apply csnd | apply gsd | apply csd | apply gsn | apply csn | apply gs | apply cs_) <;> intro _)))
  · rename_i h
    have hne : a ≠ b := fun e => by subst e; simp at h
    simp [hne]
  · rename_i h
    have hl : a.length = b.length := by first | omega | (simp at h; omega)
    clear h
    refine loopf_of (len := a.length) (by simp only [asgL, dsts, List.cons_append, List.nil_append, List.append_nil]; rfl) (by simp only [noR, Bool.and_true, Bool.and_false]; rfl) (by omega) (fun k fr s => s = st ∧ fr.t 5 = .int .i64 k ∧ a.take k = b.take k) ?_ ?_ ?_
    · simp [↓vD, vU, ↓vMd, vMu, vZ, seval, k_app, k_slc1]
    · rintro k fr s hk hw hfr hd ⟨rfl, h13, hp⟩
      have hk' : k < b.length := by omega
      have HP := Hid.mk hp
      clear hp
      (repeat' (first | (simp (maxDischargeDepth := 16) only [*, num, vX, ↓vD, vU, ↓vMd, vMu, vZ, seval]) | (simp (disch := first | assumption | omega | rfl | exact fun _ => rfl) only [num, vP]) | ((with_reducible first | apply gsnd | apply csnd | apply gsd | apply csd | apply gsn | apply csn | apply gs | apply cs_) <;> intro _)))
      · rename_i hc
        have hne : a ≠ b := fun e => by subst e; simp at hc
        simp [hne]
      · rename_i hc
        have he : a[k] = b[k] := by simpa using hc
        rw [List.take_add_one, List.take_add_one, HP.out, List.getElem?_eq_getElem hk, List.getElem?_eq_getElem hk', he]
    · rintro fr s hfr hd ⟨rfl, h13, hp⟩
      (repeat' (first | (simp (maxDischargeDepth := 16) only [*, vX, ↓vD, vU, ↓vMd, vMu, vZ, seval]) | (simp (disch := first | assumption | omega | rfl | exact fun _ => rfl) only [vP]) | ((with_reducible first | apply gsnd | apply csnd | apply gsd | apply csd | apply gsn | apply csn | apply gs | apply cs_) <;> intro _)))
      rw [List.take_length, hl, List.take_length] at hp
      simp [hp]
theorem vec_17 (m c : Int) : VPure Try.prog 28 [.int .i64 m, .int .i64 c] (.agg [.int .i64 m, .int .i64 c]) := by
  refine VPure.of v_liverylaw17_vec_ok (Nat.le_of_ble_eq_true rfl) (fun Z st => ?_)
  simp only [v_liverylaw17_vec, ↓vD, vU, ↓vMd, vMu, vZ, seval, k_app, k_slc1]
  (repeat' (first | (simp (maxDischargeDepth := 16) only [*, vX, ↓vD, vU, ↓vMd, vMu, vZ, seval]) | (simp (disch := first | assumption | omega | rfl | exact fun _ => rfl) only [vP]) | ((with_reducible first | apply gsnd | apply csnd | apply gsd | apply csd | apply gsn | apply csn | apply gs | apply cs_) <;> intro _) | (with_reducible refine objQ_i (fun _ _ => ?_); repeat with_reducible refine imp_i (fun _ => ?_))))
def sumG : List Leg → Int
  | [] => 0
  | x :: r => (if 0 < x.d ∧ x.d ≤ 4096 then x.d else 0) + sumG r
theorem sumG_take {l : List Leg} {k : Nat} (h : k < l.length) : sumG (l.take (k + 1)) = sumG (l.take k) + (if 0 < l[k].d ∧ l[k].d ≤ 4096 then l[k].d else 0) := by
  induction l generalizing k with
  | nil => simp at h
  | cons x r ih =>
    cases k with
    | zero => simp [sumG]
    | succ k => simp only [List.take_succ_cons, sumG, List.getElem_cons_succ, ih (by simpa using h)]; omega
theorem sumG_bd (l : List Leg) : 0 ≤ sumG l ∧ sumG l ≤ 4096 * l.length := by
  induction l with
  | nil => simp [sumG]
  | cons x r ih => simp only [sumG, List.length_cons]; split <;> omega
def preG (load f : List Seg) (w : Vec) (l : List Leg) : Bool := decide (60 < load.length) || decide (60 < f.length) || decide (20 < l.length) || (decide (w.m < w.c) && decide (150 < wr (w.c - w.m)) && decide (wr (w.c - w.m) ≤ 4096))
def great17 (load f : List Seg) (w : Vec) (l : List Leg) : Bool := preG load f w l || decide (9000 < sumG l)
theorem great_17 (load : List Seg) (h1 : (load.length : Int) ≤ 9223372036854775807) (f : List Seg) (hf : (f.length : Int) ≤ 9223372036854775807) (w : Vec) (l : List Leg) (hl : (l.length : Int) ≤ 9223372036854775807) (many : Int) (t t' t2 : Tok) :
    VPure Try.prog 20 [.agg [.sl (load.map Seg.a) t, .sl (f.map Seg.a) t', .int .i64 w.m, .int .i64 w.c, .sl (l.map Leg.a) t2, .int .i64 many]] (.bool (great17 load f w l)) := by
  refine VPure.of v_liverylaw17_great_ok (Nat.le_of_ble_eq_true rfl) (fun Z st => ?_)
  obtain ⟨d, hd⟩ : ∃ d, IntKind.i64.wrap (w.c - w.m) = d := ⟨_, rfl⟩
  obtain ⟨G, hG⟩ : ∃ G, preG load f w l = G := ⟨_, rfl⟩
  have HG : Hid (G = (decide (60 < load.length) || decide (60 < f.length) || decide (20 < l.length) || (decide (w.m < w.c) && decide (150 < d) && decide (d ≤ 4096)))) := ⟨by rw [← hG]; unfold preG wr; rw [hd]⟩
  unfold great17
  rw [hG]
  have HD := Hid.mk hd
  clear hG
  simp only [v_liverylaw17_great, ↓vD, vU, ↓vMd, vMu, vZ, seval, k_app, k_slc1]
  cases G with
  | true =>
    by_cases c1 : 60 < load.length
    · (repeat' (first | (simp (maxDischargeDepth := 16) only [*, vX, ↓vD, vU, ↓vMd, vMu, vZ, seval]) | (simp (disch := first | assumption | omega | rfl | exact fun _ => rfl) only [vP]) | ((with_reducible first | apply gsnd | apply csnd | apply gsd | apply csd | apply gsn | apply csn | apply gs | apply cs_) <;> intro _) | (with_reducible refine objQ_i (fun _ _ => ?_); repeat with_reducible refine imp_i (fun _ => ?_))))
    by_cases c2 : 60 < f.length
    · (repeat' (first | (simp (maxDischargeDepth := 16) only [*, vX, ↓vD, vU, ↓vMd, vMu, vZ, seval]) | (simp (disch := first | assumption | omega | rfl | exact fun _ => rfl) only [vP]) | ((with_reducible first | apply gsnd | apply csnd | apply gsd | apply csd | apply gsn | apply csn | apply gs | apply cs_) <;> intro _) | (with_reducible refine objQ_i (fun _ _ => ?_); repeat with_reducible refine imp_i (fun _ => ?_))))
    by_cases c3 : 20 < l.length
    · (repeat' (first | (simp (maxDischargeDepth := 16) only [*, vX, ↓vD, vU, ↓vMd, vMu, vZ, seval]) | (simp (disch := first | assumption | omega | rfl | exact fun _ => rfl) only [vP]) | ((with_reducible first | apply gsnd | apply csnd | apply gsd | apply csd | apply gsn | apply csn | apply gs | apply cs_) <;> intro _) | (with_reducible refine objQ_i (fun _ _ => ?_); repeat with_reducible refine imp_i (fun _ => ?_))))
    have hq : w.m < w.c ∧ 150 < d ∧ d ≤ 4096 := by simpa [c1, c2, c3, and_assoc] using HG.out.symm
    obtain ⟨q1, q2, q3⟩ := hq
    (repeat' (first | (simp (maxDischargeDepth := 16) only [*, vX, ↓vD, vU, ↓vMd, vMu, vZ, seval]) | (simp (disch := first | assumption | omega | rfl | exact fun _ => rfl) only [vP]) | ((with_reducible first | apply gsnd | apply csnd | apply gsd | apply csd | apply gsn | apply csn | apply gs | apply cs_) <;> intro _) | (with_reducible refine objQ_i (fun _ _ => ?_); repeat with_reducible refine imp_i (fun _ => ?_))))
  | false =>
    have hG := HG.out.symm
    clear HG
    simp only [Bool.or_eq_false_iff, decide_eq_false_iff_not, Bool.and_eq_false_iff] at hG
    obtain ⟨⟨⟨c1, c2⟩, c3⟩, c4⟩ := hG
    have hcase : (¬ w.m < w.c) ∨ (w.m < w.c ∧ ¬ 150 < d) ∨ (w.m < w.c ∧ 150 < d ∧ ¬ d ≤ 4096) := by
      by_cases q1 : w.m < w.c
      · by_cases q2 : 150 < d
        · rcases c4 with (h | h) | h
          · exact absurd q1 h
          · exact absurd q2 h
          · exact .inr (.inr ⟨q1, q2, h⟩)
        · exact .inr (.inl ⟨q1, q2⟩)
      · exact .inl q1
    have hl20 : l.length ≤ 20 := by omega
    clear c4
    rcases hcase with q1 | ⟨q1, q2⟩ | ⟨q1, q2, q3⟩
    all_goals
      (repeat' (first | (simp (maxDischargeDepth := 16) only [*, vX, ↓vD, vU, ↓vMd, vMu, vZ, seval]) | (simp (disch := first | assumption | omega | rfl | exact fun _ => rfl) only [vP]) | ((with_reducible first | apply gsnd | apply csnd | apply gsd | apply csd | apply gsn | apply csn | apply gs | apply cs_) <;> intro _) | (with_reducible refine objQ_i (fun _ _ => ?_); repeat with_reducible refine imp_i (fun _ => ?_))))
      refine loopp_of (len := l.length) (by simp only [asgL, dsts, List.cons_append, List.nil_append, List.append_nil]; rfl) (by simp only [noR, Bool.and_true, Bool.and_false]; rfl) (by omega) (fun k fr => fr.t 4 = .int .i64 k ∧ fr.t 3 = .int .i64 (sumG (l.take k))) ?_ ?_ ?_
      · simp [↓vD, vU, ↓vMd, vMu, vZ, seval, k_app, k_slc1, sumG]
      · rintro k fr hk hwk hfr hd' ⟨h4, h3⟩
        have hs1 := sumG_take hk
        have hs2 := sumG_bd (l.take k)
        rw [List.length_take] at hs2
        obtain ⟨s, hs⟩ : ∃ s, sumG (l.take k) = s := ⟨_, rfl⟩
        obtain ⟨s', hs'⟩ : ∃ s, sumG (l.take (k + 1)) = s := ⟨_, rfl⟩
        obtain ⟨x, hx⟩ : ∃ x, l[k] = x := ⟨_, rfl⟩
        rw [hs, hs', hx] at hs1
        rw [hs] at h3 hs2
        rw [hs']
        have HS := Hid.mk hs1
        clear hs hs' hs1
        by_cases e1 : 0 < x.d
        · by_cases e2 : x.d ≤ 4096
          · have hwx : IntKind.i64.wrap (s + x.d) = s + x.d := wrap_i64 _ (by omega) (by omega)
            obtain rfl : s' = s + x.d := by rw [HS.out, if_pos ⟨e1, e2⟩]
            clear HS
            (repeat' (first | (simp (maxDischargeDepth := 16) only [*, Leg.a, vX, ↓vD, vU, ↓vMd, vMu, vZ, seval]) | (simp (disch := first | assumption | omega | rfl | exact fun _ => rfl) only [Leg.a, vP]) | ((with_reducible first | apply gsnd | apply csnd | apply gsd | apply csd | apply gsn | apply csn | apply gs | apply cs_) <;> intro _) | (with_reducible refine objQ_i (fun _ _ => ?_); repeat with_reducible refine imp_i (fun _ => ?_))))
          · obtain rfl : s' = s := by rw [HS.out, if_neg (by omega)]; omega
            clear HS
            (repeat' (first | (simp (maxDischargeDepth := 16) only [*, Leg.a, vX, ↓vD, vU, ↓vMd, vMu, vZ, seval]) | (simp (disch := first | assumption | omega | rfl | exact fun _ => rfl) only [Leg.a, vP]) | ((with_reducible first | apply gsnd | apply csnd | apply gsd | apply csd | apply gsn | apply csn | apply gs | apply cs_) <;> intro _) | (with_reducible refine objQ_i (fun _ _ => ?_); repeat with_reducible refine imp_i (fun _ => ?_))))
        · obtain rfl : s' = s := by rw [HS.out, if_neg (by omega)]; omega
          clear HS
          (repeat' (first | (simp (maxDischargeDepth := 16) only [*, Leg.a, vX, ↓vD, vU, ↓vMd, vMu, vZ, seval]) | (simp (disch := first | assumption | omega | rfl | exact fun _ => rfl) only [Leg.a, vP]) | ((with_reducible first | apply gsnd | apply csnd | apply gsd | apply csd | apply gsn | apply csn | apply gs | apply cs_) <;> intro _) | (with_reducible refine objQ_i (fun _ _ => ?_); repeat with_reducible refine imp_i (fun _ => ?_))))
      · rintro fr hfr hd' ⟨h4, h3⟩
        rw [List.take_length] at h3
        (repeat' (first | (simp (maxDischargeDepth := 16) only [*, vX, ↓vD, vU, ↓vMd, vMu, vZ, seval]) | (simp (disch := first | assumption | omega | rfl | exact fun _ => rfl) only [vP]) | ((with_reducible first | apply gsnd | apply csnd | apply gsd | apply csd | apply gsn | apply csn | apply gs | apply cs_) <;> intro _) | (with_reducible refine objQ_i (fun _ _ => ?_); repeat with_reducible refine imp_i (fun _ => ?_))))
        rw [Bool.false_or]
def loadH : List Seg := [⟨0, ⟨3, 1⟩⟩, ⟨8, ⟨1, 0⟩⟩, ⟨12, ⟨4, 4⟩⟩, ⟨20, ⟨0, 0⟩⟩]
def fH17 : List Seg := [⟨0, ⟨5, 5⟩⟩, ⟨30, ⟨0, 0⟩⟩]
def lH17 : List Leg := [⟨4, ⟨1, 1⟩⟩]
theorem c1H : costE loadH 0 lH17 = (16, 0) := by decide +kernel
theorem c2H : costE loadH 6 lH17 = (10, 0) := by decide +kernel
theorem c3H : cheapF loadH fH17 ⟨0, 30⟩ lH17 = (20, 0) ∧ begE loadH fH17 ⟨0, 30⟩ lH17 = 0 := by decide +kernel
theorem c4H : cheapF loadH fH17 ⟨0, 18⟩ lH17 = (8, 4) ∧ begE loadH fH17 ⟨0, 18⟩ lH17 = 0 := by decide +kernel
theorem c5H : bestF loadH fH17 ⟨0, 18⟩ lH17 3 = 0 ∧ (bestL (costP loadH (lengthF lH17).1) (allT (beginsF fH17 ⟨0, 18⟩ lH17).1)).take 3 = [8, 7, 6] := by decide +kernel
theorem c6H : bestF loadH fH17 ⟨0, 18⟩ lH17 65 = 2 := by decide +kernel
theorem c7H : costE loadH 0 [] = (0, 2) := by decide +kernel
theorem c8H : cheapF loadH [] ⟨0, 18⟩ lH17 = (0, 0) ∧ begE loadH [] ⟨0, 18⟩ lH17 = 210 := by decide +kernel
theorem Cost_v (load : List Seg) (hl : load.length ≤ 1000000) (t : Int) (l : List Leg) (hn : l.length ≤ 1000000000) (tk tk' : Tok) : VPure Try.prog 25 [.sl (load.map Seg.a) tk, .int .i64 t, .sl (l.map Leg.a) tk'] (.tup [.int .i64 (costE load t l).1, .int .i64 (costE load t l).2]) := fun _ _ => Cost_c load hl t l hn tk tk'
theorem Cheapest_v (load : List Seg) (hl : load.length ≤ 1000000) (f : List Seg) (hf : f.length ≤ 1000000) (w : Vec) (h1 : -9223372036854775808 ≤ w.m) (h2 : w.c ≤ 9223372036854775807) (l : List Leg) (hn : l.length ≤ 1000000000) (tk tk' tk2 : Tok) :
    VPure Try.prog 24 [.sl (load.map Seg.a) tk, .sl (f.map Seg.a) tk', .agg [.int .i64 w.m, .int .i64 w.c], .sl (l.map Leg.a) tk2] (.tup [.int .i64 (cheapF load f w l).1, .int .i64 (cheapF load f w l).2, .int .i64 (begE load f w l)]) := fun _ _ => Cheapest_c load hl f hf w h1 h2 l hn tk tk' tk2
theorem head_17 : VPure Try.prog 21 [] (.bool true) := by
  have a1 := Cost_v loadH (by simp [loadH]) 0 lH17 (by simp [lH17]) .full .full
  have a2 := Cost_v loadH (by simp [loadH]) 6 lH17 (by simp [lH17]) .full .full
  have a3 := Cheapest_v loadH (by simp [loadH]) fH17 (by simp [fH17]) ⟨0, 30⟩ (by simp) (by simp) lH17 (by simp [lH17]) .full .full .full
  have a4 := Cheapest_v loadH (by simp [loadH]) fH17 (by simp [fH17]) ⟨0, 18⟩ (by simp) (by simp) lH17 (by simp [lH17]) .full .full .full
  have a5 := Best_v loadH (by simp [loadH]) fH17 (by simp [fH17]) ⟨0, 18⟩ (by simp) (by simp) lH17 (by simp [lH17]) 3 .full .full .full
  have a6 := Best_v loadH (by simp [loadH]) fH17 (by simp [fH17]) ⟨0, 18⟩ (by simp) (by simp) lH17 (by simp [lH17]) 65 .full .full .full
  have a7 := Cost_v loadH (by simp [loadH]) 0 [] (by simp) .full .full
  have a8 := Cheapest_v loadH (by simp [loadH]) [] (by simp) ⟨0, 18⟩ (by simp) (by simp) lH17 (by simp [lH17]) .full .full .full
  have s1 := Same_17 [8, 7, 6] [8, 7, 6] (by simp) .no .full
  simp only [beq_self_eq_true] at s1
  rw [c1H] at a1
  rw [c2H] at a2
  rw [c3H.1, c3H.2] at a3
  rw [c4H.1, c4H.2] at a4
  unfold bestA at a5 a6
  rw [show (3 : Int).toNat = 3 from rfl, c5H.1, c5H.2, if_pos rfl] at a5
  rw [c6H, if_neg (by decide)] at a6
  rw [c7H] at a7
  rw [c8H.1, c8H.2] at a8
  simp only [loadH, fH17, lH17, List.map_cons, List.map_nil, Seg.a, Leg.a, Vec.a, num] at a1 a2 a3 a4 a5 a6 a7 a8 s1
  refine VPure.of v_liverylaw17_head_ok (Nat.le_of_ble_eq_true rfl) (fun Z st => ?_)
  simp only [v_liverylaw17_head, ↓vD, vU, ↓vMd, vMu, vZ, seval, k_app, k_slc1]
  (repeat' (first | (simp (maxDischargeDepth := 16) only [*, vX, ↓vD, vU, ↓vMd, vMu, vZ, seval]) | (simp (disch := first | assumption | omega | rfl | exact fun _ => rfl) only [vP]) | ((with_reducible first | apply gsnd | apply csnd | apply gsd | apply csd | apply gsn | apply csn | apply gs | apply cs_) <;> intro _) | (with_reducible first | refine callH_use (vec_17 _ _) ?_ | refine pureQ_use (vec_17 _ _) ?_) | (with_reducible first | refine callH_use (a1) ?_ | refine pureQ_use (a1) ?_) | (with_reducible first | refine callH_use (a2) ?_ | refine pureQ_use (a2) ?_) | (with_reducible first | refine callH_use (a3) ?_ | refine pureQ_use (a3) ?_) | (with_reducible first | refine callH_use (a4) ?_ | refine pureQ_use (a4) ?_) | (with_reducible first | refine callH_use (a5) ?_ | refine pureQ_use (a5) ?_) | (with_reducible first | refine callH_use (a6) ?_ | refine pureQ_use (a6) ?_) | (with_reducible first | refine callH_use (a7) ?_ | refine pureQ_use (a7) ?_) | (with_reducible first | refine callH_use (a8) ?_ | refine pureQ_use (a8) ?_) | (with_reducible first | refine callH_use (s1) ?_ | refine pureQ_use (s1) ?_)))
end Go.Proofs.Ytglekfgoadehbaa.V
end
section
set_option linter.unusedSimpArgs false
set_option linter.unusedVariables false
/- The compiled functions of the package liveryref16 (printed by Print.lean of this work). -/
namespace Go.Proofs.Ytglekfgoadehbaa.V
open Go Go.Proofs
def v_liveryref16_All : VFn := ⟨.seq (.reg [⟨some 4, .box (.t 1), none, [], []⟩,
 ⟨some 6, .mov (.c (.sl [] .full)), none, [], []⟩])
(.seq (.reg [⟨some 7, .mov (.c (.sl [] .full)), none, [], []⟩])
(.seq (.seq (.reg [⟨some 9, .fad 0 (.t 4), none, [], []⟩,
 ⟨some 10, .load 1 false (.t 9), none, [0], []⟩,
 ⟨some 8, .mov (.t 10), none, [1, 0, 1], []⟩])
(.block 0
 (.loop
 (.seq (.seq (.reg [⟨some 11, .mov (.t 8), none, [], []⟩,
 ⟨some 12, .fad 1 (.t 4), none, [], []⟩,
 ⟨some 13, .load 1 false (.t 12), none, [1], []⟩,
 ⟨some 14, .bin .lss (.t 11) (.t 13), none, [0, 2], []⟩])
 (.cond (.t 14)
 (.skip)
 (.exit 0)))
 (.seq (.block 1
 (.seq (.reg [⟨some 17, .mov (.t 0), none, [], []⟩,
 ⟨some 18, .load 2 true (.t 4), none, [], []⟩,
 ⟨some 19, .mov (.t 2), none, [], []⟩,
 ⟨some 20, .mov (.t 8), none, [], []⟩,
 ⟨some 21, .call 55 [(.t 17), (.t 18), (.t 19), (.t 20)], none, [0, 1, 2, 3], []⟩])
 (.cond (.t 21)
 (.reg [⟨some 22, .mov (.t 7), none, [], []⟩,
 ⟨some 23, .mov (.t 8), none, [], []⟩,
 ⟨some 24, .bsl 1 [(.t 23)], none, [1], []⟩,
 ⟨some 25, .app 1 8 (.t 22) (.t 24), none, [0, 2], []⟩,
 ⟨some 7, .mov (.t 25), none, [3, 3, 0, 1, 2, 3], []⟩])
 (.skip))))
 (.reg [⟨some 15, .mov (.t 8), none, [], []⟩,
 ⟨some 16, .bin .add (.t 15) (.c (.int .i64 1)), none, [0], []⟩,
 ⟨some 8, .mov (.t 16), none, [1, 0, 1], []⟩]))))))
(.seq (.reg [⟨some 26, .mov (.t 7), none, [], []⟩,
 ⟨some 6, .mov (.t 26), none, [0, 0], []⟩])
(.ret)))),
[.t 6], 27⟩
theorem v_liveryref16_All_ok : compF Try.prog 30 = some v_liveryref16_All := by kernel_rfl
def v_liveryref16_May : VFn := ⟨.seq (.reg [⟨some 5, .box (.t 1), none, [], []⟩,
 ⟨some 8, .mov (.c (.bool false)), none, [], []⟩])
(.seq (.seq (.reg [⟨some 10, .mov (.t 3), none, [], []⟩,
 ⟨some 11, .fad 0 (.t 5), none, [], []⟩,
 ⟨some 12, .load 1 false (.t 11), none, [1], []⟩,
 ⟨some 13, .bin .lss (.t 10) (.t 12), none, [0, 2], []⟩])
(.cond (.t 13)
 (.seq (.reg [⟨some 8, .mov (.c (.bool false)), none, [], []⟩])
 (.ret))
 (.skip)))
(.seq (.seq (.reg [⟨some 9, .mov (.c (.int .i64 0)), none, [], []⟩])
(.block 0
 (.loop
 (.seq (.seq (.reg [⟨some 14, .mov (.t 9), none, [], []⟩,
 ⟨some 15, .mov (.t 2), none, [], []⟩,
 ⟨some 16, .len (.t 15), none, [1], []⟩,
 ⟨some 17, .bin .lss (.t 14) (.t 16), none, [0, 2], []⟩])
 (.cond (.t 17)
 (.skip)
 (.exit 0)))
 (.seq (.block 1
 (.seq (.seq (.dreg [⟨some 20, .mov (.t 3), none, [], []⟩,
 ⟨some 21, .mov (.t 2), none, [], []⟩,
 ⟨some 22, .mov (.t 9), none, [], []⟩,
 ⟨some 23, .iad 3 (.t 21) (.t 22), none, [1, 2], []⟩,
 ⟨some 24, .fad 0 (.t 23), none, [3], []⟩,
 ⟨some 25, .load 1 false (.t 24), none, [4], []⟩,
 ⟨some 26, .bin .add (.t 20) (.t 25), none, [0, 5], []⟩,
 ⟨some 27, .fad 1 (.t 5), none, [], []⟩,
 ⟨some 28, .load 1 false (.t 27), none, [7], []⟩,
 ⟨some 29, .bin .gtr (.t 26) (.t 28), none, [6, 8], []⟩,
 ⟨some 30, .mov (.t 29), none, [9], []⟩,
 ⟨some 31, .mov (.t 0), some (30, false), [10], []⟩,
 ⟨some 32, .mov (.t 3), some (30, false), [10], []⟩,
 ⟨some 33, .mov (.t 2), some (30, false), [10], []⟩,
 ⟨some 34, .mov (.t 9), some (30, false), [10], []⟩,
 ⟨some 35, .iad 3 (.t 33) (.t 34), some (30, false), [13, 14, 10], []⟩,
 ⟨some 36, .fad 0 (.t 35), some (30, false), [15, 10], []⟩,
 ⟨some 37, .load 1 false (.t 36), some (30, false), [16, 10], []⟩,
 ⟨some 38, .mov (.t 2), some (30, false), [10], []⟩,
 ⟨some 39, .mov (.t 9), some (30, false), [10], []⟩,
 ⟨some 40, .iad 3 (.t 38) (.t 39), some (30, false), [18, 19, 10], []⟩,
 ⟨some 41, .fad 1 (.t 40), some (30, false), [20, 10], []⟩,
 ⟨some 42, .load 2 true (.t 41), some (30, false), [21, 10], []⟩,
 ⟨some 43, .call 86 [(.t 31), (.t 32), (.t 37), (.t 42)], some (30, false), [11, 12, 17, 22, 10, 10], [(0, 0)]⟩,
 ⟨some 44, .un .not (.t 43), some (30, false), [23, 10], []⟩,
 ⟨some 45, .pick (.t 30) (.c (.bool true)) (.t 44), none, [10, 24], []⟩])
 (.cond (.t 45)
 (.seq (.reg [⟨some 8, .mov (.c (.bool false)), none, [], []⟩])
 (.ret))
 (.skip)))
 (.reg [⟨some 46, .mov (.t 3), none, [], []⟩,
 ⟨some 47, .mov (.t 2), none, [], []⟩,
 ⟨some 48, .mov (.t 9), none, [], []⟩,
 ⟨some 49, .iad 3 (.t 47) (.t 48), none, [1, 2], []⟩,
 ⟨some 50, .fad 0 (.t 49), none, [3], []⟩,
 ⟨some 51, .load 1 false (.t 50), none, [4], []⟩,
 ⟨some 52, .bin .add (.t 46) (.t 51), none, [0, 5], []⟩,
 ⟨some 3, .mov (.t 52), none, [6, 0, 1, 2, 3, 4, 5, 6], []⟩])))
 (.reg [⟨some 18, .mov (.t 9), none, [], []⟩,
 ⟨some 19, .bin .add (.t 18) (.c (.int .i64 1)), none, [0], []⟩,
 ⟨some 9, .mov (.t 19), none, [1, 0, 1], []⟩]))))))
(.seq (.reg [⟨some 8, .mov (.c (.bool true)), none, [], []⟩])
(.ret)))),
[.t 8], 53⟩
theorem v_liveryref16_May_ok : compF Try.prog 55 = some v_liveryref16_May := by kernel_rfl
end Go.Proofs.Ytglekfgoadehbaa.V
end
section
set_option linter.unusedSimpArgs false
set_option linter.unusedVariables false
/- slot.Earliest, Latest; liveryref16.Same; liverylaw16.v, head, great. -/
namespace Go.Proofs.Ytglekfgoadehbaa.V
open Go Go.Proofs
set_option maxRecDepth 100000
set_option maxHeartbeats 4000000
end Go.Proofs.Ytglekfgoadehbaa.V
end
