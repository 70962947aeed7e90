/- Texts of this claim, joined: C15c, O15b. -/
import Derived.Test.YtglekfgoadehbaaDoorQFitU5
section
set_option linter.unusedSimpArgs false
set_option linter.unusedVariables false
/- FitUsed, walked. -/
namespace Go.Proofs.YtglekfgoadehbaaDoor.V
open Go Go.Proofs
set_option maxRecDepth 100000
set_option maxHeartbeats 8000000
def askA (n d : Int) (v : Vec) : AV := .agg [.int .i64 n, .int .i64 d, .int .i64 v.m, .int .i64 v.c]
def keepG (c l o : List Seg) (ps : List Pol) (t z : Int) : List Int → Bool → Bool
  | [], b => b
  | s :: r, b => keepG c l o ps t z r (b && keepB c l o ps t z s)
theorem keepG_all (c l o : List Seg) (ps : List Pol) (t z : Int) : ∀ (ts : List Int) (b : Bool), keepG c l o ps t z ts b = (b && ts.all (keepB c l o ps t z))
  | [], b => by simp [keepG]
  | s :: r, b => by rw [keepG, keepG_all, List.all_cons, Bool.and_assoc]
theorem fitUsed_v (c l o : List Seg) (ps : List Pol) (a : Int) (hc : (c.length : Int) ≤ 9223372036854775807) (hl : (l.length : Int) ≤ 9223372036854775807) (ho : (o.length : Int) ≤ 9223372036854775807) (hp : (ps.length : Int) ≤ 9223372036854775807) (hk : ∀ p ∈ ps, 0 ≤ p.k) (n d : Int) (v : Vec) :
    VPure Tryd.prog 3 [caseA c l o ps a, askA n d v] (.bool true) := by
  refine VPure.of v_liverylaw15_FitUsed_ok (Nat.le_of_ble_eq_true rfl) (fun Z st => ?_)
  have hG := great_15 c l o ps a
  cases hg : greatC c l o ps
  case true =>
    rw [hg] at hG
    simp only [v_liverylaw15_FitUsed, caseA, askA, ↓vD, vU, ↓vMd, vMu, vZ, seval, k_app, k_slc1]
    simp only [caseA] at hG
    (repeat' (first | (simp (maxDischargeDepth := 16) only [*, vX, ↓vD, vU, ↓vMd, vMu, vZ, seval]) | (simp (disch := first | assumption | omega | rfl | exact fun _ => rfl) only [vP]) | ((with_reducible first | apply gsnd | apply csnd | apply gsd | apply csd | apply gsn | apply csn | apply gs | apply cs_) <;> intro _) | (with_reducible refine objQ_i (fun _ _ => ?_); repeat with_reducible refine imp_i (fun _ => ?_)) | ((try with_reducible refine appK_a ?_); first | (with_reducible refine appD_F (by refine ⟨?_, ?_, ?_, ?_⟩ <;> (first | assumption | omega | exact St.has_add (by assumption) | (simp only [ins_has]; exact St.has_add (by assumption)) | (simp only [ins_has, fresh_ins, kill_ins, add_ins] at *; exact St.has_add (by assumption)) | (simp only [*, ins_has, has_full, St.has_add]; done) | (simp [-List.map_take, -List.map_drop, or_imp, forall_and, Seg.a, Vec.a, Leg.a, num, okEl, cells_agg, cells_int, cells_sl, cells_bool, AV.isCell]; done) | (simp; omega))) (fun _ _ => ?_)) | (with_reducible refine appD_V (by refine ⟨?_, ?_, ?_, ?_, ?_⟩ <;> (first | assumption | omega | exact St.has_add (by assumption) | (simp only [ins_has]; exact St.has_add (by assumption)) | (simp only [ins_has, fresh_ins, kill_ins, add_ins] at *; exact St.has_add (by assumption)) | (simp only [*, ins_has, has_full, St.has_add]; done) | (simp [-List.map_take, -List.map_drop, or_imp, forall_and, Seg.a, Vec.a, Leg.a, num, okEl, cells_agg, cells_int, cells_sl, cells_bool, AV.isCell]; done) | (simp; omega))) (fun _ _ => ?_))) | (with_reducible refine freshQ_i (fun _ _ => ?_)) | (with_reducible first | refine callH_use (hG) ?_ | refine pureQ_use (hG) ?_) | (with_reducible first | refine callH_use (head_15) ?_ | refine pureQ_use (head_15) ?_)))
  rw [hg] at hG
  obtain ⟨g1, g2, g3, g4⟩ := great_no hg
  clear hg
  have F0 := Free_v c l o (by omega) .no .no .no ps (by omega) hk .no a
  have n0 := freeF_len c l o ps a (by omega) (by omega)
  have T0 := Fits_c (freeF c l o ps a).1 (by omega) n d v .no
  have L0 := Range_c l (by omega) .no n (n + d) v.m v.c
  have O0 := Range_c o (by omega) .no n (n + d) v.m v.c
  rw [range_do] at L0 O0
  have n1 := rangeR_len l n (n + d) v
  have n2 := rangeR_len o n (n + d) v
  have HU := Hid.mk (used_law (c := c) (l := l) (o := o) (ps := ps) (a := a) (t := n) (d := d) (v := v))
  have hwr : (fitsF (freeF c l o ps a).1 n d v).2 = 0 → IntKind.i64.wrap (n + d) = n + d := fun h => by
    have : winE (freeF c l o ps a).1 n d v = 0 := by
      unfold fitsF at h
      by_cases hw : winE (freeF c l o ps a).1 n d v = 0
      · exact hw
      · rw [if_neg hw] at h; exact h
    obtain ⟨_, d1, d2, _, _, d3, d4⟩ := win_ok this
    exact wrap_i64 _ (by omega) (by omega)
  obtain ⟨⟨F, e⟩, hF⟩ : ∃ w, freeF c l o ps a = w := ⟨_, rfl⟩
  rw [hF] at F0 T0 HU hwr
  simp only at F0 T0 HU hwr
  obtain ⟨⟨b, e2⟩, hT⟩ : ∃ w, fitsF F n d v = w := ⟨_, rfl⟩
  rw [hT] at T0 HU hwr
  rw [show (⟨v.m, v.c⟩ : Vec) = v from rfl] at L0 O0
  obtain ⟨⟨L, e3⟩, hL⟩ : ∃ w, rangeR l n (n + d) v = w := ⟨_, rfl⟩
  obtain ⟨⟨O, e4⟩, hO⟩ : ∃ w, rangeR o n (n + d) v = w := ⟨_, rfl⟩
  rw [hL] at L0 HU n1
  rw [hO] at O0 HU n2
  simp only at n1 n2 HU hwr
  simp only [num, Vec.a] at F0 T0 L0 O0
  clear hF hT hL hO n0
  by_cases h0 : e = 0
  case neg =>
    clear HU L0 O0 hwr
    simp only [v_liverylaw15_FitUsed, caseA, askA, ↓vD, vU, ↓vMd, vMu, vZ, seval, k_app, k_slc1]
    simp only [caseA] at hG
    (repeat' (first | (simp (maxDischargeDepth := 16) only [*, vX, ↓vD, vU, ↓vMd, vMu, vZ, seval]) | (simp (disch := first | assumption | omega | rfl | exact fun _ => rfl) only [vP]) | ((with_reducible first | apply gsnd | apply csnd | apply gsd | apply csd | apply gsn | apply csn | apply gs | apply cs_) <;> intro _) | (with_reducible refine objQ_i (fun _ _ => ?_); repeat with_reducible refine imp_i (fun _ => ?_)) | ((try with_reducible refine appK_a ?_); first | (with_reducible refine appD_F (by refine ⟨?_, ?_, ?_, ?_⟩ <;> (first | assumption | omega | exact St.has_add (by assumption) | (simp only [ins_has]; exact St.has_add (by assumption)) | (simp only [ins_has, fresh_ins, kill_ins, add_ins] at *; exact St.has_add (by assumption)) | (simp only [*, ins_has, has_full, St.has_add]; done) | (simp [-List.map_take, -List.map_drop, or_imp, forall_and, Seg.a, Vec.a, Leg.a, num, okEl, cells_agg, cells_int, cells_sl, cells_bool, AV.isCell]; done) | (simp; omega))) (fun _ _ => ?_)) | (with_reducible refine appD_V (by refine ⟨?_, ?_, ?_, ?_, ?_⟩ <;> (first | assumption | omega | exact St.has_add (by assumption) | (simp only [ins_has]; exact St.has_add (by assumption)) | (simp only [ins_has, fresh_ins, kill_ins, add_ins] at *; exact St.has_add (by assumption)) | (simp only [*, ins_has, has_full, St.has_add]; done) | (simp [-List.map_take, -List.map_drop, or_imp, forall_and, Seg.a, Vec.a, Leg.a, num, okEl, cells_agg, cells_int, cells_sl, cells_bool, AV.isCell]; done) | (simp; omega))) (fun _ _ => ?_))) | (with_reducible refine freshQ_i (fun _ _ => ?_)) | (with_reducible first | refine callH_use (hG) ?_ | refine pureQ_use (hG) ?_) | (with_reducible first | refine callH_use (F0) ?_ | refine pureQ_use (F0) ?_) | (with_reducible first | refine callH_use (T0) ?_ | refine pureQ_use (T0) ?_) | (with_reducible first | refine callH_use (head_15) ?_ | refine pureQ_use (head_15) ?_)))
    all_goals trace_state
  by_cases h1 : e2 = 0
  case neg =>
    clear HU L0 O0 hwr
    simp only [v_liverylaw15_FitUsed, caseA, askA, ↓vD, vU, ↓vMd, vMu, vZ, seval, k_app, k_slc1]
    simp only [caseA] at hG
    (repeat' (first | (simp (maxDischargeDepth := 16) only [*, vX, ↓vD, vU, ↓vMd, vMu, vZ, seval]) | (simp (disch := first | assumption | omega | rfl | exact fun _ => rfl) only [vP]) | ((with_reducible first | apply gsnd | apply csnd | apply gsd | apply csd | apply gsn | apply csn | apply gs | apply cs_) <;> intro _) | (with_reducible refine objQ_i (fun _ _ => ?_); repeat with_reducible refine imp_i (fun _ => ?_)) | ((try with_reducible refine appK_a ?_); first | (with_reducible refine appD_F (by refine ⟨?_, ?_, ?_, ?_⟩ <;> (first | assumption | omega | exact St.has_add (by assumption) | (simp only [ins_has]; exact St.has_add (by assumption)) | (simp only [ins_has, fresh_ins, kill_ins, add_ins] at *; exact St.has_add (by assumption)) | (simp only [*, ins_has, has_full, St.has_add]; done) | (simp [-List.map_take, -List.map_drop, or_imp, forall_and, Seg.a, Vec.a, Leg.a, num, okEl, cells_agg, cells_int, cells_sl, cells_bool, AV.isCell]; done) | (simp; omega))) (fun _ _ => ?_)) | (with_reducible refine appD_V (by refine ⟨?_, ?_, ?_, ?_, ?_⟩ <;> (first | assumption | omega | exact St.has_add (by assumption) | (simp only [ins_has]; exact St.has_add (by assumption)) | (simp only [ins_has, fresh_ins, kill_ins, add_ins] at *; exact St.has_add (by assumption)) | (simp only [*, ins_has, has_full, St.has_add]; done) | (simp [-List.map_take, -List.map_drop, or_imp, forall_and, Seg.a, Vec.a, Leg.a, num, okEl, cells_agg, cells_int, cells_sl, cells_bool, AV.isCell]; done) | (simp; omega))) (fun _ _ => ?_))) | (with_reducible refine freshQ_i (fun _ _ => ?_)) | (with_reducible first | refine callH_use (hG) ?_ | refine pureQ_use (hG) ?_) | (with_reducible first | refine callH_use (F0) ?_ | refine pureQ_use (F0) ?_) | (with_reducible first | refine callH_use (T0) ?_ | refine pureQ_use (T0) ?_) | (with_reducible first | refine callH_use (head_15) ?_ | refine pureQ_use (head_15) ?_)))
    all_goals trace_state
  by_cases h2 : n < a
  · clear HU L0 O0 hwr
    simp only [v_liverylaw15_FitUsed, caseA, askA, ↓vD, vU, ↓vMd, vMu, vZ, seval, k_app, k_slc1]
    simp only [caseA] at hG
    (repeat' (first | (simp (maxDischargeDepth := 16) only [*, vX, ↓vD, vU, ↓vMd, vMu, vZ, seval]) | (simp (disch := first | assumption | omega | rfl | exact fun _ => rfl) only [vP]) | ((with_reducible first | apply gsnd | apply csnd | apply gsd | apply csd | apply gsn | apply csn | apply gs | apply cs_) <;> intro _) | (with_reducible refine objQ_i (fun _ _ => ?_); repeat with_reducible refine imp_i (fun _ => ?_)) | ((try with_reducible refine appK_a ?_); first | (with_reducible refine appD_F (by refine ⟨?_, ?_, ?_, ?_⟩ <;> (first | assumption | omega | exact St.has_add (by assumption) | (simp only [ins_has]; exact St.has_add (by assumption)) | (simp only [ins_has, fresh_ins, kill_ins, add_ins] at *; exact St.has_add (by assumption)) | (simp only [*, ins_has, has_full, St.has_add]; done) | (simp [-List.map_take, -List.map_drop, or_imp, forall_and, Seg.a, Vec.a, Leg.a, num, okEl, cells_agg, cells_int, cells_sl, cells_bool, AV.isCell]; done) | (simp; omega))) (fun _ _ => ?_)) | (with_reducible refine appD_V (by refine ⟨?_, ?_, ?_, ?_, ?_⟩ <;> (first | assumption | omega | exact St.has_add (by assumption) | (simp only [ins_has]; exact St.has_add (by assumption)) | (simp only [ins_has, fresh_ins, kill_ins, add_ins] at *; exact St.has_add (by assumption)) | (simp only [*, ins_has, has_full, St.has_add]; done) | (simp [-List.map_take, -List.map_drop, or_imp, forall_and, Seg.a, Vec.a, Leg.a, num, okEl, cells_agg, cells_int, cells_sl, cells_bool, AV.isCell]; done) | (simp; omega))) (fun _ _ => ?_))) | (with_reducible refine freshQ_i (fun _ _ => ?_)) | (with_reducible first | refine callH_use (hG) ?_ | refine pureQ_use (hG) ?_) | (with_reducible first | refine callH_use (F0) ?_ | refine pureQ_use (F0) ?_) | (with_reducible first | refine callH_use (T0) ?_ | refine pureQ_use (T0) ?_) | (with_reducible first | refine callH_use (head_15) ?_ | refine pureQ_use (head_15) ?_)))
    all_goals trace_state
  have hwr := hwr h1
  by_cases h3 : e3 = 0
  case neg =>
    clear HU
    simp only [v_liverylaw15_FitUsed, caseA, askA, ↓vD, vU, ↓vMd, vMu, vZ, seval, k_app, k_slc1]
    simp only [caseA] at hG
    (repeat' (first | (simp (maxDischargeDepth := 16) only [*, vX, ↓vD, vU, ↓vMd, vMu, vZ, seval]) | (simp (disch := first | assumption | omega | rfl | exact fun _ => rfl) only [vP]) | ((with_reducible first | apply gsnd | apply csnd | apply gsd | apply csd | apply gsn | apply csn | apply gs | apply cs_) <;> intro _) | (with_reducible refine objQ_i (fun _ _ => ?_); repeat with_reducible refine imp_i (fun _ => ?_)) | ((try with_reducible refine appK_a ?_); first | (with_reducible refine appD_F (by refine ⟨?_, ?_, ?_, ?_⟩ <;> (first | assumption | omega | exact St.has_add (by assumption) | (simp only [ins_has]; exact St.has_add (by assumption)) | (simp only [ins_has, fresh_ins, kill_ins, add_ins] at *; exact St.has_add (by assumption)) | (simp only [*, ins_has, has_full, St.has_add]; done) | (simp [-List.map_take, -List.map_drop, or_imp, forall_and, Seg.a, Vec.a, Leg.a, num, okEl, cells_agg, cells_int, cells_sl, cells_bool, AV.isCell]; done) | (simp; omega))) (fun _ _ => ?_)) | (with_reducible refine appD_V (by refine ⟨?_, ?_, ?_, ?_, ?_⟩ <;> (first | assumption | omega | exact St.has_add (by assumption) | (simp only [ins_has]; exact St.has_add (by assumption)) | (simp only [ins_has, fresh_ins, kill_ins, add_ins] at *; exact St.has_add (by assumption)) | (simp only [*, ins_has, has_full, St.has_add]; done) | (simp [-List.map_take, -List.map_drop, or_imp, forall_and, Seg.a, Vec.a, Leg.a, num, okEl, cells_agg, cells_int, cells_sl, cells_bool, AV.isCell]; done) | (simp; omega))) (fun _ _ => ?_))) | (with_reducible refine freshQ_i (fun _ _ => ?_)) | (with_reducible first | refine callH_use (hG) ?_ | refine pureQ_use (hG) ?_) | (with_reducible first | refine callH_use (F0) ?_ | refine pureQ_use (F0) ?_) | (with_reducible first | refine callH_use (T0) ?_ | refine pureQ_use (T0) ?_) | (with_reducible first | refine callH_use (L0) ?_ | refine pureQ_use (L0) ?_) | (with_reducible first | refine callH_use (O0) ?_ | refine pureQ_use (O0) ?_) | (with_reducible first | refine callH_use (head_15) ?_ | refine pureQ_use (head_15) ?_)))
    all_goals trace_state
  by_cases h4 : e4 = 0
  case neg =>
    clear HU
    simp only [v_liverylaw15_FitUsed, caseA, askA, ↓vD, vU, ↓vMd, vMu, vZ, seval, k_app, k_slc1]
    simp only [caseA] at hG
    (repeat' (first | (simp (maxDischargeDepth := 16) only [*, vX, ↓vD, vU, ↓vMd, vMu, vZ, seval]) | (simp (disch := first | assumption | omega | rfl | exact fun _ => rfl) only [vP]) | ((with_reducible first | apply gsnd | apply csnd | apply gsd | apply csd | apply gsn | apply csn | apply gs | apply cs_) <;> intro _) | (with_reducible refine objQ_i (fun _ _ => ?_); repeat with_reducible refine imp_i (fun _ => ?_)) | ((try with_reducible refine appK_a ?_); first | (with_reducible refine appD_F (by refine ⟨?_, ?_, ?_, ?_⟩ <;> (first | assumption | omega | exact St.has_add (by assumption) | (simp only [ins_has]; exact St.has_add (by assumption)) | (simp only [ins_has, fresh_ins, kill_ins, add_ins] at *; exact St.has_add (by assumption)) | (simp only [*, ins_has, has_full, St.has_add]; done) | (simp [-List.map_take, -List.map_drop, or_imp, forall_and, Seg.a, Vec.a, Leg.a, num, okEl, cells_agg, cells_int, cells_sl, cells_bool, AV.isCell]; done) | (simp; omega))) (fun _ _ => ?_)) | (with_reducible refine appD_V (by refine ⟨?_, ?_, ?_, ?_, ?_⟩ <;> (first | assumption | omega | exact St.has_add (by assumption) | (simp only [ins_has]; exact St.has_add (by assumption)) | (simp only [ins_has, fresh_ins, kill_ins, add_ins] at *; exact St.has_add (by assumption)) | (simp only [*, ins_has, has_full, St.has_add]; done) | (simp [-List.map_take, -List.map_drop, or_imp, forall_and, Seg.a, Vec.a, Leg.a, num, okEl, cells_agg, cells_int, cells_sl, cells_bool, AV.isCell]; done) | (simp; omega))) (fun _ _ => ?_))) | (with_reducible refine freshQ_i (fun _ _ => ?_)) | (with_reducible first | refine callH_use (hG) ?_ | refine pureQ_use (hG) ?_) | (with_reducible first | refine callH_use (F0) ?_ | refine pureQ_use (F0) ?_) | (with_reducible first | refine callH_use (T0) ?_ | refine pureQ_use (T0) ?_) | (with_reducible first | refine callH_use (L0) ?_ | refine pureQ_use (L0) ?_) | (with_reducible first | refine callH_use (O0) ?_ | refine pureQ_use (O0) ?_) | (with_reducible first | refine callH_use (head_15) ?_ | refine pureQ_use (head_15) ?_)))
    all_goals trace_state
  have hb := HU.out h0 h1 (by omega) h3 h4
  subst h0 h1 h3 h4
  clear HU
  have W1 := (When_2 L (by omega) .no).pure
  have W2 := (When_2 O (by omega) .no).pure
  have W3 := (When_2 c (by omega) .no).pure
  rw [← List.append_assoc] at hb
  obtain ⟨ts, hts⟩ : ∃ ts, n :: ((L.map (·.t) ++ O.map (·.t)) ++ c.map (·.t)) = ts := ⟨_, rfl⟩
  have hE : AV.int .i64 n :: ((L.map (fun x => num x.t) ++ O.map (fun x => num x.t)) ++ c.map (fun x => num x.t)) = ts.map num := by
    rw [← hts, List.map_cons, List.map_append, List.map_append, List.map_map, List.map_map, List.map_map]; rfl
  have hlen : ts.length ≤ 1000 := by rw [← hts]; simp; omega
  rw [hts] at hb
  rw [← Bool.true_and (List.all _ _), ← keepG_all] at hb
  have HB := Hid.mk hb
  have A1 := Hid.mk fun s => At_2 L (by omega) .no s
  have A2 := Hid.mk fun s => At_2 c (by omega) .no s
  have A3 := Hid.mk fun s => At_2 O (by omega) .no s
  clear hb hts
  simp only [v_liverylaw15_FitUsed, caseA, askA, ↓vD, vU, ↓vMd, vMu, vZ, seval, k_app, k_slc1]
  simp only [caseA] at hG
  (repeat' (first | (simp (maxDischargeDepth := 16) only [*, vX, ↓vD, vU, ↓vMd, vMu, vZ, seval]) | (simp (disch := first | assumption | omega | rfl | exact fun _ => rfl) only [vP]) | ((with_reducible first | apply gsnd | apply csnd | apply gsd | apply csd | apply gsn | apply csn | apply gs | apply cs_) <;> intro _) | (with_reducible refine objQ_i (fun _ _ => ?_); repeat with_reducible refine imp_i (fun _ => ?_)) | ((try with_reducible refine appK_a ?_); first | (with_reducible refine appD_F (by refine ⟨?_, ?_, ?_, ?_⟩ <;> (first | assumption | omega | exact St.has_add (by assumption) | (simp only [ins_has]; exact St.has_add (by assumption)) | (simp only [ins_has, fresh_ins, kill_ins, add_ins] at *; exact St.has_add (by assumption)) | (simp only [*, ins_has, has_full, St.has_add]; done) | (simp [-List.map_take, -List.map_drop, or_imp, forall_and, Seg.a, Vec.a, Leg.a, num, okEl, cells_agg, cells_int, cells_sl, cells_bool, AV.isCell]; done) | (simp; omega))) (fun _ _ => ?_)) | (with_reducible refine appD_V (by refine ⟨?_, ?_, ?_, ?_, ?_⟩ <;> (first | assumption | omega | exact St.has_add (by assumption) | (simp only [ins_has]; exact St.has_add (by assumption)) | (simp only [ins_has, fresh_ins, kill_ins, add_ins] at *; exact St.has_add (by assumption)) | (simp only [*, ins_has, has_full, St.has_add]; done) | (simp [-List.map_take, -List.map_drop, or_imp, forall_and, Seg.a, Vec.a, Leg.a, num, okEl, cells_agg, cells_int, cells_sl, cells_bool, AV.isCell]; done) | (simp; omega))) (fun _ _ => ?_))) | (with_reducible refine freshQ_i (fun _ _ => ?_)) | (with_reducible first | refine callH_use (hG) ?_ | refine pureQ_use (hG) ?_) | (with_reducible first | refine callH_use (F0) ?_ | refine pureQ_use (F0) ?_) | (with_reducible first | refine callH_use (T0) ?_ | refine pureQ_use (T0) ?_) | (with_reducible first | refine callH_use (L0) ?_ | refine pureQ_use (L0) ?_) | (with_reducible first | refine callH_use (O0) ?_ | refine pureQ_use (O0) ?_) | (with_reducible first | refine callH_use (W1) ?_ | refine pureQ_use (W1) ?_) | (with_reducible first | refine callH_use (W2) ?_ | refine pureQ_use (W2) ?_) | (with_reducible first | refine callH_use (W3) ?_ | refine pureQ_use (W3) ?_) | (with_reducible first | refine callH_use (head_15) ?_ | refine pureQ_use (head_15) ?_)))
  all_goals
    clear F0 T0 L0 O0 W1 W2 W3 hG
    refine loopp_of (len := ts.length) (by simp only [asgL, dsts, List.cons_append, List.nil_append, List.append_nil]; rfl) (by simp only [noR, Bool.and_true, Bool.and_false]; rfl) (by omega) (fun k fr => fr.t 15 = .int .i64 k ∧ ∃ q, fr.t 13 = .bool q ∧ Hid (keepG c L O ps n (n + d) (ts.drop k) q = b)) ?_ ?_ ?_
    · exact ⟨by simp [↓vD, vU, ↓vMd, vMu, vZ, seval, k_app, k_slc1], true, by simp [↓vD, vU, ↓vMd, vMu, vZ, seval, k_app, k_slc1], ⟨HB.out.symm⟩⟩
    · rintro k fr hk' hwk hfr hd ⟨h15, q, h13, HK⟩
      obtain ⟨s, hs⟩ : ∃ s, ts[k] = s := ⟨_, rfl⟩
      have HK2 : Hid (keepG c L O ps n (n + d) (ts.drop (k + 1)) (q && keepB c L O ps n (n + d) s) = b) := ⟨by rw [← HK.out, List.drop_eq_getElem_cons hk', hs, keepG]⟩
      clear HK HB
      by_cases s1 : s < n
      · have e1 : keepB c L O ps n (n + d) s = true := by unfold keepB; rw [decide_eq_false (by omega : ¬ n ≤ s)]; rfl
        rw [e1, Bool.and_true] at HK2
        clear e1
        (repeat' (first | (simp (maxDischargeDepth := 16) only [*, num, vX, ↓vD, vU, ↓vMd, vMu, vZ, seval]) | (simp (disch := first | assumption | omega | rfl | exact fun _ => rfl) only [num, vP]) | ((with_reducible first | apply gsnd | apply csnd | apply gsd | apply csd | apply gsn | apply csn | apply gs | apply cs_) <;> intro _) | (with_reducible refine objQ_i (fun _ _ => ?_); repeat with_reducible refine imp_i (fun _ => ?_)) | ((try with_reducible refine appK_a ?_); first | (with_reducible refine appD_F (by refine ⟨?_, ?_, ?_, ?_⟩ <;> (first | assumption | omega | exact St.has_add (by assumption) | (simp only [ins_has]; exact St.has_add (by assumption)) | (simp only [ins_has, fresh_ins, kill_ins, add_ins] at *; exact St.has_add (by assumption)) | (simp only [*, ins_has, has_full, St.has_add]; done) | (simp [-List.map_take, -List.map_drop, or_imp, forall_and, Seg.a, Vec.a, Leg.a, num, okEl, cells_agg, cells_int, cells_sl, cells_bool, AV.isCell]; done) | (simp; omega))) (fun _ _ => ?_)) | (with_reducible refine appD_V (by refine ⟨?_, ?_, ?_, ?_, ?_⟩ <;> (first | assumption | omega | exact St.has_add (by assumption) | (simp only [ins_has]; exact St.has_add (by assumption)) | (simp only [ins_has, fresh_ins, kill_ins, add_ins] at *; exact St.has_add (by assumption)) | (simp only [*, ins_has, has_full, St.has_add]; done) | (simp [-List.map_take, -List.map_drop, or_imp, forall_and, Seg.a, Vec.a, Leg.a, num, okEl, cells_agg, cells_int, cells_sl, cells_bool, AV.isCell]; done) | (simp; omega))) (fun _ _ => ?_))) | (with_reducible refine freshQ_i (fun _ _ => ?_))))
        all_goals first | done | exact ⟨q, rfl, HK2⟩ | exact HK2 | trace_state
      by_cases s2 : n + d ≤ s
      · have e1 : keepB c L O ps n (n + d) s = true := by unfold keepB; rw [decide_eq_false (by omega : ¬ s < n + d), Bool.and_false]; rfl
        rw [e1, Bool.and_true] at HK2
        clear e1
        (repeat' (first | (simp (maxDischargeDepth := 16) only [*, num, vX, ↓vD, vU, ↓vMd, vMu, vZ, seval]) | (simp (disch := first | assumption | omega | rfl | exact fun _ => rfl) only [num, vP]) | ((with_reducible first | apply gsnd | apply csnd | apply gsd | apply csd | apply gsn | apply csn | apply gs | apply cs_) <;> intro _) | (with_reducible refine objQ_i (fun _ _ => ?_); repeat with_reducible refine imp_i (fun _ => ?_)) | ((try with_reducible refine appK_a ?_); first | (with_reducible refine appD_F (by refine ⟨?_, ?_, ?_, ?_⟩ <;> (first | assumption | omega | exact St.has_add (by assumption) | (simp only [ins_has]; exact St.has_add (by assumption)) | (simp only [ins_has, fresh_ins, kill_ins, add_ins] at *; exact St.has_add (by assumption)) | (simp only [*, ins_has, has_full, St.has_add]; done) | (simp [-List.map_take, -List.map_drop, or_imp, forall_and, Seg.a, Vec.a, Leg.a, num, okEl, cells_agg, cells_int, cells_sl, cells_bool, AV.isCell]; done) | (simp; omega))) (fun _ _ => ?_)) | (with_reducible refine appD_V (by refine ⟨?_, ?_, ?_, ?_, ?_⟩ <;> (first | assumption | omega | exact St.has_add (by assumption) | (simp only [ins_has]; exact St.has_add (by assumption)) | (simp only [ins_has, fresh_ins, kill_ins, add_ins] at *; exact St.has_add (by assumption)) | (simp only [*, ins_has, has_full, St.has_add]; done) | (simp [-List.map_take, -List.map_drop, or_imp, forall_and, Seg.a, Vec.a, Leg.a, num, okEl, cells_agg, cells_int, cells_sl, cells_bool, AV.isCell]; done) | (simp; omega))) (fun _ _ => ?_))) | (with_reducible refine freshQ_i (fun _ _ => ?_))))
        all_goals first | done | exact ⟨q, rfl, HK2⟩ | exact HK2 | trace_state
      have e1 : keepB c L O ps n (n + d) s = ps.all (okB (atF c s) (atF L s) (atF O s)) := by unfold keepB; rw [decide_eq_true (by omega : n ≤ s), decide_eq_true (by omega : s < n + d)]; rfl
      rw [e1] at HK2
      have B1 := A1.out s
      have B2 := A2.out s
      have B3 := A3.out s
      obtain ⟨x, hx⟩ : ∃ x, atF c s = x := ⟨_, rfl⟩
      obtain ⟨y, hy⟩ : ∃ x, atF L s = x := ⟨_, rfl⟩
      obtain ⟨z, hz⟩ : ∃ x, atF O s = x := ⟨_, rfl⟩
      rw [hx] at HK2 B2
      rw [hy] at HK2 B1
      rw [hz] at HK2 B3
      simp only [num] at B1 B2 B3
      clear e1 hx hy hz A1 A2 A3
      (repeat' (first | (simp (maxDischargeDepth := 16) only [*, num, vX, ↓vD, vU, ↓vMd, vMu, vZ, seval]) | (simp (disch := first | assumption | omega | rfl | exact fun _ => rfl) only [num, vP]) | ((with_reducible first | apply gsnd | apply csnd | apply gsd | apply csd | apply gsn | apply csn | apply gs | apply cs_) <;> intro _) | (with_reducible refine objQ_i (fun _ _ => ?_); repeat with_reducible refine imp_i (fun _ => ?_)) | ((try with_reducible refine appK_a ?_); first | (with_reducible refine appD_F (by refine ⟨?_, ?_, ?_, ?_⟩ <;> (first | assumption | omega | exact St.has_add (by assumption) | (simp only [ins_has]; exact St.has_add (by assumption)) | (simp only [ins_has, fresh_ins, kill_ins, add_ins] at *; exact St.has_add (by assumption)) | (simp only [*, ins_has, has_full, St.has_add]; done) | (simp [-List.map_take, -List.map_drop, or_imp, forall_and, Seg.a, Vec.a, Leg.a, num, okEl, cells_agg, cells_int, cells_sl, cells_bool, AV.isCell]; done) | (simp; omega))) (fun _ _ => ?_)) | (with_reducible refine appD_V (by refine ⟨?_, ?_, ?_, ?_, ?_⟩ <;> (first | assumption | omega | exact St.has_add (by assumption) | (simp only [ins_has]; exact St.has_add (by assumption)) | (simp only [ins_has, fresh_ins, kill_ins, add_ins] at *; exact St.has_add (by assumption)) | (simp only [*, ins_has, has_full, St.has_add]; done) | (simp [-List.map_take, -List.map_drop, or_imp, forall_and, Seg.a, Vec.a, Leg.a, num, okEl, cells_agg, cells_int, cells_sl, cells_bool, AV.isCell]; done) | (simp; omega))) (fun _ _ => ?_))) | (with_reducible refine freshQ_i (fun _ _ => ?_))))
      refine loopp_of (len := ps.length) (by simp only [asgL, dsts, List.cons_append, List.nil_append, List.append_nil]; rfl) (by simp only [noR, Bool.and_true, Bool.and_false]; rfl) (by omega) (fun j fr => fr.t 17 = .int .i64 j ∧ ∃ r, fr.t 13 = .bool r ∧ Hid ((r && (ps.drop j).all (okB x y z)) = (q && ps.all (okB x y z)))) ?_ ?_ ?_
      · exact ⟨by simp [↓vD, vU, ↓vMd, vMu, vZ, seval, k_app, k_slc1], q, by simp [↓vD, vU, ↓vMd, vMu, vZ, seval, k_app, k_slc1, h13], ⟨rfl⟩⟩
      · rintro j fr2 hj hwj hfr2 hd2 ⟨h17, r, h13', HJ⟩
        obtain ⟨p, hp⟩ : ∃ p, ps[j] = p := ⟨_, rfl⟩
        have HJ2 : Hid ((r && okB x y z p && (ps.drop (j + 1)).all (okB x y z)) = (q && ps.all (okB x y z))) := ⟨by rw [← HJ.out, List.drop_eq_getElem_cons hj, hp, List.all_cons, Bool.and_assoc]⟩
        clear HJ HK2 hk
        have N1 := LE_1 y.m y.c x.m x.c
        have N2 := LE_1 z.m z.c p.cap.m p.cap.c
        have HO : Hid (okB x y z p = ((decide (p.k ≠ 0) || (decide (y.m ≤ x.m) && decide (y.c ≤ x.c))) && (decide (p.k ≠ 1) || (decide (z.m ≤ p.cap.m) && decide (z.c ≤ p.cap.c))))) := ⟨rfl⟩
        obtain ⟨u1, hu1⟩ : ∃ u, (decide (y.m ≤ x.m) && decide (y.c ≤ x.c)) = u := ⟨_, rfl⟩
        obtain ⟨u2, hu2⟩ : ∃ u, (decide (z.m ≤ p.cap.m) && decide (z.c ≤ p.cap.c)) = u := ⟨_, rfl⟩
        rw [hu1] at N1 HO
        rw [hu2] at N2 HO
        clear hu1 hu2
        rw [HO.out] at HJ2
        clear HO
        cases r
        · simp only [Bool.false_and] at HJ2
          (repeat' (first | (simp (maxDischargeDepth := 16) only [*, num, Pol.a, vX, ↓vD, vU, ↓vMd, vMu, vZ, seval]) | (simp (disch := first | assumption | omega | rfl | exact fun _ => rfl) only [num, Pol.a, vP]) | ((with_reducible first | apply gsnd | apply csnd | apply gsd | apply csd | apply gsn | apply csn | apply gs | apply cs_) <;> intro _) | (with_reducible refine objQ_i (fun _ _ => ?_); repeat with_reducible refine imp_i (fun _ => ?_)) | ((try with_reducible refine appK_a ?_); first | (with_reducible refine appD_F (by refine ⟨?_, ?_, ?_, ?_⟩ <;> (first | assumption | omega | exact St.has_add (by assumption) | (simp only [ins_has]; exact St.has_add (by assumption)) | (simp only [ins_has, fresh_ins, kill_ins, add_ins] at *; exact St.has_add (by assumption)) | (simp only [*, ins_has, has_full, St.has_add]; done) | (simp [-List.map_take, -List.map_drop, or_imp, forall_and, Seg.a, Vec.a, Leg.a, num, okEl, cells_agg, cells_int, cells_sl, cells_bool, AV.isCell, Pol.a]; done) | (simp; omega))) (fun _ _ => ?_)) | (with_reducible refine appD_V (by refine ⟨?_, ?_, ?_, ?_, ?_⟩ <;> (first | assumption | omega | exact St.has_add (by assumption) | (simp only [ins_has]; exact St.has_add (by assumption)) | (simp only [ins_has, fresh_ins, kill_ins, add_ins] at *; exact St.has_add (by assumption)) | (simp only [*, ins_has, has_full, St.has_add]; done) | (simp [-List.map_take, -List.map_drop, or_imp, forall_and, Seg.a, Vec.a, Leg.a, num, okEl, cells_agg, cells_int, cells_sl, cells_bool, AV.isCell, Pol.a]; done) | (simp; omega))) (fun _ _ => ?_))) | (with_reducible refine freshQ_i (fun _ _ => ?_)) | (with_reducible first | refine callH_use (B1) ?_ | refine pureQ_use (B1) ?_) | (with_reducible first | refine callH_use (B2) ?_ | refine pureQ_use (B2) ?_) | (with_reducible first | refine callH_use (B3) ?_ | refine pureQ_use (B3) ?_) | (with_reducible first | refine callH_use (N1) ?_ | refine pureQ_use (N1) ?_) | (with_reducible first | refine callH_use (N2) ?_ | refine pureQ_use (N2) ?_)))
          all_goals first | done | exact ⟨false, rfl, ⟨by simpa using HJ2.out⟩⟩ | exact ⟨by simpa using HJ2.out⟩ | trace_state
        by_cases k0 : p.k = 0
        · simp only [k0, ne_eq, not_false_eq_true, not_true_eq_false, decide_true, decide_false, Bool.true_or, Bool.false_or, Bool.true_and, Bool.and_true] at HJ2
          (repeat' (first | (simp (maxDischargeDepth := 16) only [*, num, Pol.a, vX, ↓vD, vU, ↓vMd, vMu, vZ, seval]) | (simp (disch := first | assumption | omega | rfl | exact fun _ => rfl) only [num, Pol.a, vP]) | ((with_reducible first | apply gsnd | apply csnd | apply gsd | apply csd | apply gsn | apply csn | apply gs | apply cs_) <;> intro _) | (with_reducible refine objQ_i (fun _ _ => ?_); repeat with_reducible refine imp_i (fun _ => ?_)) | ((try with_reducible refine appK_a ?_); first | (with_reducible refine appD_F (by refine ⟨?_, ?_, ?_, ?_⟩ <;> (first | assumption | omega | exact St.has_add (by assumption) | (simp only [ins_has]; exact St.has_add (by assumption)) | (simp only [ins_has, fresh_ins, kill_ins, add_ins] at *; exact St.has_add (by assumption)) | (simp only [*, ins_has, has_full, St.has_add]; done) | (simp [-List.map_take, -List.map_drop, or_imp, forall_and, Seg.a, Vec.a, Leg.a, num, okEl, cells_agg, cells_int, cells_sl, cells_bool, AV.isCell, Pol.a]; done) | (simp; omega))) (fun _ _ => ?_)) | (with_reducible refine appD_V (by refine ⟨?_, ?_, ?_, ?_, ?_⟩ <;> (first | assumption | omega | exact St.has_add (by assumption) | (simp only [ins_has]; exact St.has_add (by assumption)) | (simp only [ins_has, fresh_ins, kill_ins, add_ins] at *; exact St.has_add (by assumption)) | (simp only [*, ins_has, has_full, St.has_add]; done) | (simp [-List.map_take, -List.map_drop, or_imp, forall_and, Seg.a, Vec.a, Leg.a, num, okEl, cells_agg, cells_int, cells_sl, cells_bool, AV.isCell, Pol.a]; done) | (simp; omega))) (fun _ _ => ?_))) | (with_reducible refine freshQ_i (fun _ _ => ?_)) | (with_reducible first | refine callH_use (B1) ?_ | refine pureQ_use (B1) ?_) | (with_reducible first | refine callH_use (B2) ?_ | refine pureQ_use (B2) ?_) | (with_reducible first | refine callH_use (B3) ?_ | refine pureQ_use (B3) ?_) | (with_reducible first | refine callH_use (N1) ?_ | refine pureQ_use (N1) ?_) | (with_reducible first | refine callH_use (N2) ?_ | refine pureQ_use (N2) ?_)))
          all_goals first | done | exact ⟨_, rfl, ⟨by rw [← HJ2.out]; simp [*]⟩⟩ | exact ⟨by rw [← HJ2.out]; simp [*]⟩ | trace_state
        by_cases k1 : p.k = 1
        · simp only [k1, ne_eq, not_false_eq_true, not_true_eq_false, decide_true, decide_false, Bool.true_or, Bool.false_or, Bool.true_and, Bool.and_true] at HJ2
          (repeat' (first | (simp (maxDischargeDepth := 16) only [*, num, Pol.a, vX, ↓vD, vU, ↓vMd, vMu, vZ, seval]) | (simp (disch := first | assumption | omega | rfl | exact fun _ => rfl) only [num, Pol.a, vP]) | ((with_reducible first | apply gsnd | apply csnd | apply gsd | apply csd | apply gsn | apply csn | apply gs | apply cs_) <;> intro _) | (with_reducible refine objQ_i (fun _ _ => ?_); repeat with_reducible refine imp_i (fun _ => ?_)) | ((try with_reducible refine appK_a ?_); first | (with_reducible refine appD_F (by refine ⟨?_, ?_, ?_, ?_⟩ <;> (first | assumption | omega | exact St.has_add (by assumption) | (simp only [ins_has]; exact St.has_add (by assumption)) | (simp only [ins_has, fresh_ins, kill_ins, add_ins] at *; exact St.has_add (by assumption)) | (simp only [*, ins_has, has_full, St.has_add]; done) | (simp [-List.map_take, -List.map_drop, or_imp, forall_and, Seg.a, Vec.a, Leg.a, num, okEl, cells_agg, cells_int, cells_sl, cells_bool, AV.isCell, Pol.a]; done) | (simp; omega))) (fun _ _ => ?_)) | (with_reducible refine appD_V (by refine ⟨?_, ?_, ?_, ?_, ?_⟩ <;> (first | assumption | omega | exact St.has_add (by assumption) | (simp only [ins_has]; exact St.has_add (by assumption)) | (simp only [ins_has, fresh_ins, kill_ins, add_ins] at *; exact St.has_add (by assumption)) | (simp only [*, ins_has, has_full, St.has_add]; done) | (simp [-List.map_take, -List.map_drop, or_imp, forall_and, Seg.a, Vec.a, Leg.a, num, okEl, cells_agg, cells_int, cells_sl, cells_bool, AV.isCell, Pol.a]; done) | (simp; omega))) (fun _ _ => ?_))) | (with_reducible refine freshQ_i (fun _ _ => ?_)) | (with_reducible first | refine callH_use (B1) ?_ | refine pureQ_use (B1) ?_) | (with_reducible first | refine callH_use (B2) ?_ | refine pureQ_use (B2) ?_) | (with_reducible first | refine callH_use (B3) ?_ | refine pureQ_use (B3) ?_) | (with_reducible first | refine callH_use (N1) ?_ | refine pureQ_use (N1) ?_) | (with_reducible first | refine callH_use (N2) ?_ | refine pureQ_use (N2) ?_)))
          all_goals first | done | exact ⟨_, rfl, ⟨by rw [← HJ2.out]; simp [*]⟩⟩ | exact ⟨by rw [← HJ2.out]; simp [*]⟩ | trace_state
        · simp only [k0, k1, ne_eq, not_false_eq_true, not_true_eq_false, decide_true, decide_false, Bool.true_or, Bool.false_or, Bool.true_and, Bool.and_true] at HJ2
          (repeat' (first | (simp (maxDischargeDepth := 16) only [*, num, Pol.a, vX, ↓vD, vU, ↓vMd, vMu, vZ, seval]) | (simp (disch := first | assumption | omega | rfl | exact fun _ => rfl) only [num, Pol.a, vP]) | ((with_reducible first | apply gsnd | apply csnd | apply gsd | apply csd | apply gsn | apply csn | apply gs | apply cs_) <;> intro _) | (with_reducible refine objQ_i (fun _ _ => ?_); repeat with_reducible refine imp_i (fun _ => ?_)) | ((try with_reducible refine appK_a ?_); first | (with_reducible refine appD_F (by refine ⟨?_, ?_, ?_, ?_⟩ <;> (first | assumption | omega | exact St.has_add (by assumption) | (simp only [ins_has]; exact St.has_add (by assumption)) | (simp only [ins_has, fresh_ins, kill_ins, add_ins] at *; exact St.has_add (by assumption)) | (simp only [*, ins_has, has_full, St.has_add]; done) | (simp [-List.map_take, -List.map_drop, or_imp, forall_and, Seg.a, Vec.a, Leg.a, num, okEl, cells_agg, cells_int, cells_sl, cells_bool, AV.isCell, Pol.a]; done) | (simp; omega))) (fun _ _ => ?_)) | (with_reducible refine appD_V (by refine ⟨?_, ?_, ?_, ?_, ?_⟩ <;> (first | assumption | omega | exact St.has_add (by assumption) | (simp only [ins_has]; exact St.has_add (by assumption)) | (simp only [ins_has, fresh_ins, kill_ins, add_ins] at *; exact St.has_add (by assumption)) | (simp only [*, ins_has, has_full, St.has_add]; done) | (simp [-List.map_take, -List.map_drop, or_imp, forall_and, Seg.a, Vec.a, Leg.a, num, okEl, cells_agg, cells_int, cells_sl, cells_bool, AV.isCell, Pol.a]; done) | (simp; omega))) (fun _ _ => ?_))) | (with_reducible refine freshQ_i (fun _ _ => ?_)) | (with_reducible first | refine callH_use (B1) ?_ | refine pureQ_use (B1) ?_) | (with_reducible first | refine callH_use (B2) ?_ | refine pureQ_use (B2) ?_) | (with_reducible first | refine callH_use (B3) ?_ | refine pureQ_use (B3) ?_) | (with_reducible first | refine callH_use (N1) ?_ | refine pureQ_use (N1) ?_) | (with_reducible first | refine callH_use (N2) ?_ | refine pureQ_use (N2) ?_)))
          all_goals first | done | exact ⟨_, rfl, ⟨by rw [← HJ2.out]; simp [*]⟩⟩ | exact ⟨by rw [← HJ2.out]; simp [*]⟩ | trace_state
      · rintro fr2 hfr2 hd2 ⟨h17, r, h13', HJ⟩
        rw [List.drop_length] at HJ
        simp only [List.all_nil, Bool.and_true] at HJ
        rw [← HJ.out] at HK2
        clear HJ hk
        (repeat' (first | (simp (maxDischargeDepth := 16) only [*, num, vX, ↓vD, vU, ↓vMd, vMu, vZ, seval]) | (simp (disch := first | assumption | omega | rfl | exact fun _ => rfl) only [num, vP]) | ((with_reducible first | apply gsnd | apply csnd | apply gsd | apply csd | apply gsn | apply csn | apply gs | apply cs_) <;> intro _) | (with_reducible refine objQ_i (fun _ _ => ?_); repeat with_reducible refine imp_i (fun _ => ?_)) | ((try with_reducible refine appK_a ?_); first | (with_reducible refine appD_F (by refine ⟨?_, ?_, ?_, ?_⟩ <;> (first | assumption | omega | exact St.has_add (by assumption) | (simp only [ins_has]; exact St.has_add (by assumption)) | (simp only [ins_has, fresh_ins, kill_ins, add_ins] at *; exact St.has_add (by assumption)) | (simp only [*, ins_has, has_full, St.has_add]; done) | (simp [-List.map_take, -List.map_drop, or_imp, forall_and, Seg.a, Vec.a, Leg.a, num, okEl, cells_agg, cells_int, cells_sl, cells_bool, AV.isCell]; done) | (simp; omega))) (fun _ _ => ?_)) | (with_reducible refine appD_V (by refine ⟨?_, ?_, ?_, ?_, ?_⟩ <;> (first | assumption | omega | exact St.has_add (by assumption) | (simp only [ins_has]; exact St.has_add (by assumption)) | (simp only [ins_has, fresh_ins, kill_ins, add_ins] at *; exact St.has_add (by assumption)) | (simp only [*, ins_has, has_full, St.has_add]; done) | (simp [-List.map_take, -List.map_drop, or_imp, forall_and, Seg.a, Vec.a, Leg.a, num, okEl, cells_agg, cells_int, cells_sl, cells_bool, AV.isCell]; done) | (simp; omega))) (fun _ _ => ?_))) | (with_reducible refine freshQ_i (fun _ _ => ?_))))
        all_goals first | done | exact ⟨_, rfl, HK2⟩ | exact HK2 | trace_state
    · rintro fr hfr hd ⟨h15, q, h13, HK⟩
      rw [List.drop_length] at HK
      obtain rfl : q = b := HK.out
      clear HK HB
      (repeat' (first | (simp (maxDischargeDepth := 16) only [*, num, vX, ↓vD, vU, ↓vMd, vMu, vZ, seval]) | (simp (disch := first | assumption | omega | rfl | exact fun _ => rfl) only [num, vP]) | ((with_reducible first | apply gsnd | apply csnd | apply gsd | apply csd | apply gsn | apply csn | apply gs | apply cs_) <;> intro _) | (with_reducible refine objQ_i (fun _ _ => ?_); repeat with_reducible refine imp_i (fun _ => ?_)) | ((try with_reducible refine appK_a ?_); first | (with_reducible refine appD_F (by refine ⟨?_, ?_, ?_, ?_⟩ <;> (first | assumption | omega | exact St.has_add (by assumption) | (simp only [ins_has]; exact St.has_add (by assumption)) | (simp only [ins_has, fresh_ins, kill_ins, add_ins] at *; exact St.has_add (by assumption)) | (simp only [*, ins_has, has_full, St.has_add]; done) | (simp [-List.map_take, -List.map_drop, or_imp, forall_and, Seg.a, Vec.a, Leg.a, num, okEl, cells_agg, cells_int, cells_sl, cells_bool, AV.isCell]; done) | (simp; omega))) (fun _ _ => ?_)) | (with_reducible refine appD_V (by refine ⟨?_, ?_, ?_, ?_, ?_⟩ <;> (first | assumption | omega | exact St.has_add (by assumption) | (simp only [ins_has]; exact St.has_add (by assumption)) | (simp only [ins_has, fresh_ins, kill_ins, add_ins] at *; exact St.has_add (by assumption)) | (simp only [*, ins_has, has_full, St.has_add]; done) | (simp [-List.map_take, -List.map_drop, or_imp, forall_and, Seg.a, Vec.a, Leg.a, num, okEl, cells_agg, cells_int, cells_sl, cells_bool, AV.isCell]; done) | (simp; omega))) (fun _ _ => ?_))) | (with_reducible refine freshQ_i (fun _ _ => ?_)) | (with_reducible first | refine callH_use (head_15) ?_ | refine pureQ_use (head_15) ?_)))
      all_goals first | done | (((try clear hfr); (try clear hfr2); (try clear hfr3); (try clear hf); (try clear hf2); (try clear hd); (try clear hd2); (try clear hd3); (try simp only [fresh_ins, kill_ins, add_ins] at *); (repeat' (first | exact St.le.refl _ | (with_reducible refine le_ins_new ?_ _ (by assumption)) | (with_reducible refine St.le.trans ?_ (add_kill_le (by assumption))) | (with_reducible refine le_add_t _ ?_)))); done) | trace_state
end Go.Proofs.YtglekfgoadehbaaDoor.V
end
section
set_option linter.unusedSimpArgs false
set_option linter.unusedVariables false
/- FitLess and FitUsed, as the rows hand them in. -/
namespace Go.Proofs.YtglekfgoadehbaaDoor.V
open Go Go.Proofs
theorem fitLess_r (x : Case15) (h : wfCase15 x) (m : List Seg) (_ : ∀ y ∈ m, wfSeg y) (hm : (m.length : Int) ≤ 9223372036854775807) (p : Pol) (hp : wfPol p) : VPure Tryd.prog 5 [x.a, .sl (m.map Seg.a) .no, p.a] (.bool true) :=
  fitLess_v x.c x.l x.o x.ps x.n h.1 h.2.1 h.2.2.1 h.2.2.2.1 h.2.2.2.2 m hm p hp.1
theorem fitUsed_r (x : Case15) (h : wfCase15 x) (y : Ask15) (_ : True) : VPure Tryd.prog 3 [x.a, y.a] (.bool true) :=
  fitUsed_v x.c x.l x.o x.ps x.n h.1 h.2.1 h.2.2.1 h.2.2.2.1 h.2.2.2.2 y.n y.d y.v
end Go.Proofs.YtglekfgoadehbaaDoor.V
end
