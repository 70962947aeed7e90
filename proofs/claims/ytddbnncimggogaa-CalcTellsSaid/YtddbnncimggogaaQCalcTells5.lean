/- Texts of this claim, joined: Cref4, Ccalc5, Pcalc, Pcalc2, Pcalc3, VXliverylaw03, Chead03, Ctells. -/
import Derived.Test.YtddbnncimggogaaQCalcTells3
import Derived.Test.YtddbnncimggogaaQCalcTells4
import Derived.Test.YtddbnncimggogaaQCalcTells2
import Derived.Test.YtddbnncimggogaaProg
section
set_option linter.unusedSimpArgs false
set_option linter.unusedVariables false
/- liveryref03.LE. -/
namespace Go.Proofs.Ytddbnncimggogaa.V
open Go Go.Proofs
set_option maxRecDepth 100000
set_option maxHeartbeats 4000000
def leV (a b : Vec) : Bool := decide (a.m ≤ b.m) && decide (a.c ≤ b.c)
def leHit (f g : List Seg) (a t : Int) : Bool := decide (a ≤ t) && !leV (atF f t) (atF g t)
def leFind (us : List Int) (p : Int → Bool) : Int × Bool × Int := match us.find? p with | some t => (t, false, 0) | none => (0, true, 0)
def leR (f g : List Seg) (a : Int) : Int × Bool × Int := if mayF f && mayF g then leFind (timesF (timesF (f.map (·.t) ++ g.map (·.t)) ++ [a])) (leHit f g a) else (0, false, 5)
theorem find_at {α : Type} {p : α → Bool} {xs : List α} {k : Nat} (hk : k < xs.length) (h0 : ∀ j (h : j < k), p (xs[j]'(by omega)) = false) (h : p xs[k] = true) : xs.find? p = some xs[k] := by
  rw [List.find?_eq_some_iff_getElem]
  exact ⟨h, k, hk, rfl, fun j hj => by rw [h0 j hj]; rfl⟩
theorem find_no {α : Type} {p : α → Bool} {xs : List α} (h0 : ∀ j (h : j < xs.length), p xs[j] = false) : xs.find? p = none := by
  rw [List.find?_eq_none]
  intro x hx
  obtain ⟨k, hk, rfl⟩ := List.getElem_of_mem hx
  rw [h0 k hk]; simp
theorem LE_3 (f g : List Seg) (hf : f.length ≤ 1000000) (hg : g.length ≤ 1000000) (t t' : Tok) (a : Int) : VPure Try.prog 38 [.sl (f.map Seg.a) t, .sl (g.map Seg.a) t', .int .i64 a] (.tup [num (leR f g a).1, .bool (leR f g a).2.1, num (leR f g a).2.2]) := by
  refine VPure.of v_liveryref03_LE_ok (Nat.le_of_ble_eq_true rfl) (fun Z st => ?_)
  have hmf := May_2 f (by omega) t
  have hmg := May_2 g (by omega) t'
  have hT := Times_3 f g (by omega) (by omega) t t'
  have htl := timesF_len (f.map (·.t) ++ g.map (·.t))
  obtain ⟨ts, hts⟩ : ∃ ts, timesF (f.map (·.t) ++ g.map (·.t)) = ts := ⟨_, rfl⟩
  have hle : leR f g a = if mayF f && mayF g then leFind (timesF (ts ++ [a])) (leHit f g a) else (0, false, 5) := by unfold leR; rw [hts]
  rw [hts] at hT htl
  have hlen : ts.length ≤ 2000000 := by simp at htl; omega
  have hT2 := fun tk => (Times_2 (ts ++ [a]) (by simp; omega) tk).pure
  have htl2 := timesF_len (ts ++ [a])
  obtain ⟨us, hus⟩ : ∃ us, timesF (ts ++ [a]) = us := ⟨_, rfl⟩
  rw [hus] at hle hT2 htl2
  have hlen2 : us.length ≤ 2000001 := by simp at htl2; omega
  have e : (ts ++ [a]).map num = ts.map num ++ [.int .i64 a] := by simp [num]
  simp only [e] at hT2
  have HD := Hid.mk hle
  have HT := Hid.mk hT
  clear hts hus htl htl2 hle e hT
  simp only [v_liveryref03_LE, ↓vD, vU, VE.ev, VE.evs, retvs, tupOf, grab, vfill, vbsl, eqCells, eqCell, veqs, veqs1, vmnx, AV.isCell, AV.isUndef, Nat.reduceEqDiff, Nat.reduceAdd, Nat.reduceSub, Nat.reduceLeDiff, Nat.reduceLT, reduceIte, reduceCtorEq, Nat.reduceBEq, k_app, k_slc1]
  (repeat' (first | (simp (config := { maxDischargeDepth := 16 }) only [*, num, vX, Int.reduceLE, Int.reduceLT, Int.reduceGE, Int.reduceGT, Int.reduceBEq, Int.reduceBNe, Int.reduceAdd, Int.reduceSub, Int.reduceMul, Int.reduceNeg, ↓vD, vU, VE.ev, VE.evs, retvs, tupOf, grab, vfill, vbsl, eqCells, eqCell, veqs, veqs1, vmnx, AV.isCell, AV.isUndef, Nat.reduceEqDiff, Nat.reduceAdd, Nat.reduceSub, Nat.reduceLeDiff, Nat.reduceLT, reduceIte, reduceCtorEq, Nat.reduceBEq]) | (simp (disch := first | assumption | omega | exact Seg.len _ | exact Vec.len _ | exact Leg.len _ | exact num_len _ | exact rowA_len _ | exact rowA_len | exact rowT_len _ | exact rowT_len | exact Seg.len | exact Vec.len | exact Leg.len | exact num_len | exact AV.slen _ _ | rfl) only [num, vP]) | (with_reducible (first | refine gsnd (fun _ => ?_) (fun _ => ?_) | refine csnd (fun _ => ?_) (fun _ => ?_) | refine gsd (fun _ => ?_) (fun _ => ?_) | refine csd (fun _ => ?_) (fun _ => ?_) | refine gsn (fun _ => ?_) (fun _ => ?_) | refine csn (fun _ => ?_) (fun _ => ?_))) | (with_reducible refine gs (fun _ => ?_) (fun _ => ?_)) | (with_reducible refine cs_ (fun _ => ?_) (fun _ => ?_)) | (with_reducible refine objQ_i (fun _ _ => ?_); (repeat (with_reducible refine imp_i (fun _ => ?_)))) | ((try with_reducible refine appK_a ?_); first | (with_reducible refine appD_F (by refine ⟨?_, ?_, ?_, ?_⟩ <;> (first | assumption | omega | exact St.has_add (by assumption) | (simp only [ins_has]; exact St.has_add (by assumption)) | (simp only [ins_has, fresh_ins, kill_ins, add_ins] at *; exact St.has_add (by assumption)) | (simp only [*, ins_has, has_full, St.has_add]; done) | (simp [-List.map_take, -List.map_drop, or_imp, forall_and, Seg.a, Vec.a, Leg.a, num, okEl, cells_agg, cells_int, cells_sl, cells_bool, AV.isCell]; done) | (simp; omega))) (fun _ _ => ?_)) | (with_reducible refine appD_V (by refine ⟨?_, ?_, ?_, ?_, ?_⟩ <;> (first | assumption | omega | exact St.has_add (by assumption) | (simp only [ins_has]; exact St.has_add (by assumption)) | (simp only [ins_has, fresh_ins, kill_ins, add_ins] at *; exact St.has_add (by assumption)) | (simp only [*, ins_has, has_full, St.has_add]; done) | (simp [-List.map_take, -List.map_drop, or_imp, forall_and, Seg.a, Vec.a, Leg.a, num, okEl, cells_agg, cells_int, cells_sl, cells_bool, AV.isCell]; done) | (simp; omega))) (fun _ _ => ?_))) | (with_reducible refine freshQ_i (fun _ _ => ?_)) | (with_reducible refine nilQ_i (fun _ _ => ?_)) | (with_reducible first | refine callH_use (hmf) ?_ | refine pureQ_use (hmf) ?_) | (with_reducible first | refine callH_use (hmg) ?_ | refine pureQ_use (hmg) ?_)))
  · rename_i h1
    rw [HD.out, h1]; rfl
  · rename_i h1 h2
    rw [HD.out, h1, h2]; rfl
  rename_i h1 h2
  have HE : Hid (leR f g a = leFind us (leHit f g a)) := ⟨by rw [HD.out, h1, h2]; rfl⟩
  clear HD
  refine callH_then (HT.out Z st) ?_
  rintro _ s1 ⟨t1, ho1, rfl⟩
  have hts := ho1.has
  have hT3 := hT2
  (repeat' (first | (simp (config := { maxDischargeDepth := 16 }) only [*, num, vX, Int.reduceLE, Int.reduceLT, Int.reduceGE, Int.reduceGT, Int.reduceBEq, Int.reduceBNe, Int.reduceAdd, Int.reduceSub, Int.reduceMul, Int.reduceNeg, ↓vD, vU, VE.ev, VE.evs, retvs, tupOf, grab, vfill, vbsl, eqCells, eqCell, veqs, veqs1, vmnx, AV.isCell, AV.isUndef, Nat.reduceEqDiff, Nat.reduceAdd, Nat.reduceSub, Nat.reduceLeDiff, Nat.reduceLT, reduceIte, reduceCtorEq, Nat.reduceBEq]) | (simp (disch := first | assumption | omega | exact Seg.len _ | exact Vec.len _ | exact Leg.len _ | exact num_len _ | exact rowA_len _ | exact rowA_len | exact rowT_len _ | exact rowT_len | exact Seg.len | exact Vec.len | exact Leg.len | exact num_len | exact AV.slen _ _ | rfl) only [num, vP]) | (with_reducible (first | refine gsnd (fun _ => ?_) (fun _ => ?_) | refine csnd (fun _ => ?_) (fun _ => ?_) | refine gsd (fun _ => ?_) (fun _ => ?_) | refine csd (fun _ => ?_) (fun _ => ?_) | refine gsn (fun _ => ?_) (fun _ => ?_) | refine csn (fun _ => ?_) (fun _ => ?_))) | (with_reducible refine gs (fun _ => ?_) (fun _ => ?_)) | (with_reducible refine cs_ (fun _ => ?_) (fun _ => ?_)) | (with_reducible refine objQ_i (fun _ _ => ?_); (repeat (with_reducible refine imp_i (fun _ => ?_)))) | ((try with_reducible refine appK_a ?_); first | (with_reducible refine appD_F (by refine ⟨?_, ?_, ?_, ?_⟩ <;> (first | assumption | omega | exact St.has_add (by assumption) | (simp only [ins_has]; exact St.has_add (by assumption)) | (simp only [ins_has, fresh_ins, kill_ins, add_ins] at *; exact St.has_add (by assumption)) | (simp only [*, ins_has, has_full, St.has_add]; done) | (simp [-List.map_take, -List.map_drop, or_imp, forall_and, Seg.a, Vec.a, Leg.a, num, okEl, cells_agg, cells_int, cells_sl, cells_bool, AV.isCell]; done) | (simp; omega))) (fun _ _ => ?_)) | (with_reducible refine appD_V (by refine ⟨?_, ?_, ?_, ?_, ?_⟩ <;> (first | assumption | omega | exact St.has_add (by assumption) | (simp only [ins_has]; exact St.has_add (by assumption)) | (simp only [ins_has, fresh_ins, kill_ins, add_ins] at *; exact St.has_add (by assumption)) | (simp only [*, ins_has, has_full, St.has_add]; done) | (simp [-List.map_take, -List.map_drop, or_imp, forall_and, Seg.a, Vec.a, Leg.a, num, okEl, cells_agg, cells_int, cells_sl, cells_bool, AV.isCell]; done) | (simp; omega))) (fun _ _ => ?_))) | (with_reducible refine freshQ_i (fun _ _ => ?_)) | (with_reducible refine nilQ_i (fun _ _ => ?_)) | (with_reducible first | refine callH_use (hmf) ?_ | refine pureQ_use (hmf) ?_) | (with_reducible first | refine callH_use (hmg) ?_ | refine pureQ_use (hmg) ?_) | (with_reducible first | refine callH_use (hT2 _) ?_ | refine pureQ_use (hT2 _) ?_)))
  rename_i t2 hf2
  have hU := (ho1.next hf2).under
  obtain ⟨S, hS⟩ : ∃ S, (s1.kill t1).add t2 = S := ⟨_, rfl⟩
  rw [hS] at hU ⊢
  clear hf2 hS hts ho1 HT hT3 hT2
  refine loopf_of (len := us.length) (by simp only [asgL, dsts, List.cons_append, List.nil_append, List.append_nil]; rfl) (by simp only [noR, Bool.and_true, Bool.and_false]; rfl) (by omega) (fun k fr2 s2 => s2 = S ∧ fr2.t 10 = .int .i64 k ∧ ∀ j, (h1 : j < k) → (h2 : j < us.length) → leHit f g a us[j] = false) ?_ ?_ ?_
  · simp [↓vD, vU, VE.ev, VE.evs, retvs, tupOf, grab, vfill, vbsl, eqCells, eqCell, veqs, veqs1, vmnx, AV.isCell, AV.isUndef, Nat.reduceEqDiff, Nat.reduceAdd, Nat.reduceSub, Nat.reduceLeDiff, Nat.reduceLT, reduceIte, reduceCtorEq, Nat.reduceBEq, k_app, k_slc1]
  · rintro k fr2 s2 hk hw hf2 hd2 ⟨rfl, h10, hno⟩
    have hA := At_2 f (by omega) t us[k]
    have hB := At_2 g (by omega) t' us[k]
    unfold num at hA hB
    have HF := fun h => find_at (p := leHit f g a) hk (fun j hj => hno j hj (by omega)) h
    have HH := Hid.mk HF
    have HN := Hid.mk hno
    have hhit : leHit f g a us[k] = (decide (a ≤ us[k]) && !(decide ((atF f us[k]).m ≤ (atF g us[k]).m) && decide ((atF f us[k]).c ≤ (atF g us[k]).c))) := rfl
    obtain ⟨x, hx⟩ : ∃ x, us[k] = x := ⟨_, rfl⟩
    rw [hx] at hhit
    simp only [hx] at HH hA hB
    have HX := Hid.mk (And.intro hx hhit)
    clear HF hno hhit
    (repeat' (first | (simp (config := { maxDischargeDepth := 16 }) only [*, num, vX, Int.reduceLE, Int.reduceLT, Int.reduceGE, Int.reduceGT, Int.reduceBEq, Int.reduceBNe, Int.reduceAdd, Int.reduceSub, Int.reduceMul, Int.reduceNeg, ↓vD, vU, VE.ev, VE.evs, retvs, tupOf, grab, vfill, vbsl, eqCells, eqCell, veqs, veqs1, vmnx, AV.isCell, AV.isUndef, Nat.reduceEqDiff, Nat.reduceAdd, Nat.reduceSub, Nat.reduceLeDiff, Nat.reduceLT, reduceIte, reduceCtorEq, Nat.reduceBEq]) | (simp (disch := first | assumption | omega | exact Seg.len _ | exact Vec.len _ | exact Leg.len _ | exact num_len _ | exact rowA_len _ | exact rowA_len | exact rowT_len _ | exact rowT_len | exact Seg.len | exact Vec.len | exact Leg.len | exact num_len | exact AV.slen _ _ | rfl) only [num, vP]) | (with_reducible (first | refine gsnd (fun _ => ?_) (fun _ => ?_) | refine csnd (fun _ => ?_) (fun _ => ?_) | refine gsd (fun _ => ?_) (fun _ => ?_) | refine csd (fun _ => ?_) (fun _ => ?_) | refine gsn (fun _ => ?_) (fun _ => ?_) | refine csn (fun _ => ?_) (fun _ => ?_))) | (with_reducible refine gs (fun _ => ?_) (fun _ => ?_)) | (with_reducible refine cs_ (fun _ => ?_) (fun _ => ?_)) | (with_reducible refine objQ_i (fun _ _ => ?_); (repeat (with_reducible refine imp_i (fun _ => ?_)))) | ((try with_reducible refine appK_a ?_); first | (with_reducible refine appD_F (by refine ⟨?_, ?_, ?_, ?_⟩ <;> (first | assumption | omega | exact St.has_add (by assumption) | (simp only [ins_has]; exact St.has_add (by assumption)) | (simp only [ins_has, fresh_ins, kill_ins, add_ins] at *; exact St.has_add (by assumption)) | (simp only [*, ins_has, has_full, St.has_add]; done) | (simp [-List.map_take, -List.map_drop, or_imp, forall_and, Seg.a, Vec.a, Leg.a, num, okEl, cells_agg, cells_int, cells_sl, cells_bool, AV.isCell]; done) | (simp; omega))) (fun _ _ => ?_)) | (with_reducible refine appD_V (by refine ⟨?_, ?_, ?_, ?_, ?_⟩ <;> (first | assumption | omega | exact St.has_add (by assumption) | (simp only [ins_has]; exact St.has_add (by assumption)) | (simp only [ins_has, fresh_ins, kill_ins, add_ins] at *; exact St.has_add (by assumption)) | (simp only [*, ins_has, has_full, St.has_add]; done) | (simp [-List.map_take, -List.map_drop, or_imp, forall_and, Seg.a, Vec.a, Leg.a, num, okEl, cells_agg, cells_int, cells_sl, cells_bool, AV.isCell]; done) | (simp; omega))) (fun _ _ => ?_))) | (with_reducible refine freshQ_i (fun _ _ => ?_)) | (with_reducible refine nilQ_i (fun _ _ => ?_)) | (with_reducible first | refine callH_use (hA) ?_ | refine pureQ_use (hA) ?_) | (with_reducible first | refine callH_use (hB) ?_ | refine pureQ_use (hB) ?_) | (with_reducible first | refine callH_use (LE_1 _ _ _ _) ?_ | refine pureQ_use (LE_1 _ _ _ _) ?_)))
    · rename_i h3 h4
      have hh : leHit f g a x = true := by rw [HX.out.2, decide_eq_true h3, h4]; rfl
      rw [HE.out, leFind, HH.out hh]
    all_goals
      intro j h1 h2
      rcases Nat.lt_or_ge j k with hjk | hjk
      · exact HN.out j hjk h2
      · have hj : j = k := by omega
        subst hj
        rw [hx, HX.out.2]
        first
        | (rw [decide_eq_false (by assumption : ¬ a ≤ x)]; rfl)
        | (rw [show (decide ((atF f x).m ≤ (atF g x).m) && decide ((atF f x).c ≤ (atF g x).c)) = true from by assumption]; simp)
  · rintro fr2 s2 hf2 hd2 ⟨rfl, h10, hno⟩
    have hfn := find_no (p := leHit f g a) (xs := us) (fun j h => hno j h h)
    have HX := Hid.mk hfn
    clear hfn hno
    (repeat' (first | (simp (config := { maxDischargeDepth := 16 }) only [*, num, vX, Int.reduceLE, Int.reduceLT, Int.reduceGE, Int.reduceGT, Int.reduceBEq, Int.reduceBNe, Int.reduceAdd, Int.reduceSub, Int.reduceMul, Int.reduceNeg, ↓vD, vU, VE.ev, VE.evs, retvs, tupOf, grab, vfill, vbsl, eqCells, eqCell, veqs, veqs1, vmnx, AV.isCell, AV.isUndef, Nat.reduceEqDiff, Nat.reduceAdd, Nat.reduceSub, Nat.reduceLeDiff, Nat.reduceLT, reduceIte, reduceCtorEq, Nat.reduceBEq]) | (simp (disch := first | assumption | omega | exact Seg.len _ | exact Vec.len _ | exact Leg.len _ | exact num_len _ | exact rowA_len _ | exact rowA_len | exact rowT_len _ | exact rowT_len | exact Seg.len | exact Vec.len | exact Leg.len | exact num_len | exact AV.slen _ _ | rfl) only [num, vP]) | (with_reducible (first | refine gsnd (fun _ => ?_) (fun _ => ?_) | refine csnd (fun _ => ?_) (fun _ => ?_) | refine gsd (fun _ => ?_) (fun _ => ?_) | refine csd (fun _ => ?_) (fun _ => ?_) | refine gsn (fun _ => ?_) (fun _ => ?_) | refine csn (fun _ => ?_) (fun _ => ?_))) | (with_reducible refine gs (fun _ => ?_) (fun _ => ?_)) | (with_reducible refine cs_ (fun _ => ?_) (fun _ => ?_)) | (with_reducible refine objQ_i (fun _ _ => ?_); (repeat (with_reducible refine imp_i (fun _ => ?_)))) | ((try with_reducible refine appK_a ?_); first | (with_reducible refine appD_F (by refine ⟨?_, ?_, ?_, ?_⟩ <;> (first | assumption | omega | exact St.has_add (by assumption) | (simp only [ins_has]; exact St.has_add (by assumption)) | (simp only [ins_has, fresh_ins, kill_ins, add_ins] at *; exact St.has_add (by assumption)) | (simp only [*, ins_has, has_full, St.has_add]; done) | (simp [-List.map_take, -List.map_drop, or_imp, forall_and, Seg.a, Vec.a, Leg.a, num, okEl, cells_agg, cells_int, cells_sl, cells_bool, AV.isCell]; done) | (simp; omega))) (fun _ _ => ?_)) | (with_reducible refine appD_V (by refine ⟨?_, ?_, ?_, ?_, ?_⟩ <;> (first | assumption | omega | exact St.has_add (by assumption) | (simp only [ins_has]; exact St.has_add (by assumption)) | (simp only [ins_has, fresh_ins, kill_ins, add_ins] at *; exact St.has_add (by assumption)) | (simp only [*, ins_has, has_full, St.has_add]; done) | (simp [-List.map_take, -List.map_drop, or_imp, forall_and, Seg.a, Vec.a, Leg.a, num, okEl, cells_agg, cells_int, cells_sl, cells_bool, AV.isCell]; done) | (simp; omega))) (fun _ _ => ?_))) | (with_reducible refine freshQ_i (fun _ _ => ?_)) | (with_reducible refine nilQ_i (fun _ _ => ?_))))
    rw [HE.out, leFind, HX.out]
end Go.Proofs.Ytddbnncimggogaa.V
end
section
set_option linter.unusedSimpArgs false
set_option linter.unusedVariables false
/- calc.LE. -/
namespace Go.Proofs.Ytddbnncimggogaa.V
open Go Go.Proofs
set_option maxRecDepth 100000
set_option maxHeartbeats 4000000
def hitI (a : Int) (it : Int × Vec × Vec) : Bool := decide (a ≤ it.1) && !leV it.2.1 it.2.2
def leFindI (L : List (Int × Vec × Vec)) (p : Int × Vec × Vec → Bool) : Int × Bool × Int := match L.find? p with | some it => (it.1, false, 0) | none => (0, true, 0)
def leC (f g : List Seg) (a : Int) : Int × Bool × Int := if mayF f && mayF g then (if leV (atF f a) (atF g a) then leFindI (bothF f g v0 v0) (hitI a) else (a, false, 0)) else (0, false, 5)
theorem LE_c (f g : List Seg) (hf : f.length ≤ 1000000) (hg : g.length ≤ 1000000) (t t' : Tok) (a : Int) : VPure Try.prog 37 [.sl (f.map Seg.a) t, .sl (g.map Seg.a) t', .int .i64 a] (.tup [num (leC f g a).1, .bool (leC f g a).2.1, num (leC f g a).2.2]) := by
  refine VPure.of v_calc_LE_ok (Nat.le_of_ble_eq_true rfl) (fun Z st => ?_)
  have hmay := may2_c f g hf hg .full t t'
  have hA := At_v f (by omega) t a
  have hB := At_v g (by omega) t' a
  unfold num at hA hB
  obtain ⟨L, hL⟩ : ∃ L, bothF f g v0 v0 = L := ⟨_, rfl⟩
  have HM : Hid (leC f g a = if mayF f && mayF g then (if leV (atF f a) (atF g a) then leFindI L (hitI a) else (a, false, 0)) else (0, false, 5)) := ⟨by unfold leC; rw [hL]⟩
  have HL := Hid.mk hL
  clear hL
  simp only [v_calc_LE, ↓vD, vU, VE.ev, VE.evs, retvs, tupOf, grab, vfill, vbsl, eqCells, eqCell, veqs, veqs1, vmnx, AV.isCell, AV.isUndef, Nat.reduceEqDiff, Nat.reduceAdd, Nat.reduceSub, Nat.reduceLeDiff, Nat.reduceLT, reduceIte, reduceCtorEq, Nat.reduceBEq, k_app, k_slc1]
  (repeat' (first | (simp (config := { maxDischargeDepth := 16 }) only [*, num, vX, Int.reduceLE, Int.reduceLT, Int.reduceGE, Int.reduceGT, Int.reduceBEq, Int.reduceBNe, Int.reduceAdd, Int.reduceSub, Int.reduceMul, Int.reduceNeg, ↓vD, vU, VE.ev, VE.evs, retvs, tupOf, grab, vfill, vbsl, eqCells, eqCell, veqs, veqs1, vmnx, AV.isCell, AV.isUndef, Nat.reduceEqDiff, Nat.reduceAdd, Nat.reduceSub, Nat.reduceLeDiff, Nat.reduceLT, reduceIte, reduceCtorEq, Nat.reduceBEq]) | (simp (disch := first | assumption | omega | exact Seg.len _ | exact Vec.len _ | exact Leg.len _ | exact num_len _ | exact rowA_len _ | exact rowA_len | exact rowT_len _ | exact rowT_len | exact Seg.len | exact Vec.len | exact Leg.len | exact num_len | exact AV.slen _ _ | rfl) only [num, vP]) | (with_reducible (first | refine gsnd (fun _ => ?_) (fun _ => ?_) | refine csnd (fun _ => ?_) (fun _ => ?_) | refine gsd (fun _ => ?_) (fun _ => ?_) | refine csd (fun _ => ?_) (fun _ => ?_) | refine gsn (fun _ => ?_) (fun _ => ?_) | refine csn (fun _ => ?_) (fun _ => ?_))) | (with_reducible refine gs (fun _ => ?_) (fun _ => ?_)) | (with_reducible refine cs_ (fun _ => ?_) (fun _ => ?_)) | (with_reducible refine objQ_i (fun _ _ => ?_); (repeat (with_reducible refine imp_i (fun _ => ?_)))) | ((try with_reducible refine appK_a ?_); first | (with_reducible refine appD_F (by refine ⟨?_, ?_, ?_, ?_⟩ <;> (first | assumption | omega | exact St.has_add (by assumption) | (simp only [ins_has]; exact St.has_add (by assumption)) | (simp only [ins_has, fresh_ins, kill_ins, add_ins] at *; exact St.has_add (by assumption)) | (simp only [*, ins_has, has_full, St.has_add]; done) | (simp [-List.map_take, -List.map_drop, or_imp, forall_and, Seg.a, Vec.a, Leg.a, num, okEl, cells_agg, cells_int, cells_sl, cells_bool, AV.isCell]; done) | (simp; omega))) (fun _ _ => ?_)) | (with_reducible refine appD_V (by refine ⟨?_, ?_, ?_, ?_, ?_⟩ <;> (first | assumption | omega | exact St.has_add (by assumption) | (simp only [ins_has]; exact St.has_add (by assumption)) | (simp only [ins_has, fresh_ins, kill_ins, add_ins] at *; exact St.has_add (by assumption)) | (simp only [*, ins_has, has_full, St.has_add]; done) | (simp [-List.map_take, -List.map_drop, or_imp, forall_and, Seg.a, Vec.a, Leg.a, num, okEl, cells_agg, cells_int, cells_sl, cells_bool, AV.isCell]; done) | (simp; omega))) (fun _ _ => ?_))) | (with_reducible refine freshQ_i (fun _ _ => ?_)) | (with_reducible refine nilQ_i (fun _ _ => ?_)) | (with_reducible first | refine callH_use (hmay) ?_ | refine pureQ_use (hmay) ?_) | (with_reducible first | refine callH_use (hA) ?_ | refine pureQ_use (hA) ?_) | (with_reducible first | refine callH_use (hB) ?_ | refine pureQ_use (hB) ?_) | (with_reducible first | refine callH_use (LE_v _ _ _ _) ?_ | refine pureQ_use (LE_v _ _ _ _) ?_)))
  · rename_i hm
    rw [HM.out, hm]; rfl
  · have hm : (mayF f && mayF g) = true := by assumption
    have h2 : leV (atF f a) (atF g a) = false := by
      show (decide ((atF f a).m ≤ (atF g a).m) && decide ((atF f a).c ≤ (atF g a).c)) = false
      assumption
    rw [HM.out, hm, h2]; rfl
  rename_i b5 h5 b6 h6 n65 n56 b7 h7 n75 n57 n76 n67 b8 h8 n85 n58 n86 n68 n87 n78 hm hle
  have HN : Hid (leC f g a = leFindI L (hitI a)) := ⟨by
    have h2 : leV (atF f a) (atF g a) = true := hle
    rw [HM.out, hm, h2]; rfl⟩
  clear HM hmay hA hB
  refine callH_then (both_c f g t t' _) ?_
  rintro _ _ ⟨bf, bg, hbf, hbg, nfg, rfl, rfl⟩
  have ngf : ¬ bg = bf := fun e => nfg e.symm
  simp only [ins_objs, ite_some_none] at hbf hbg
  simp only [↓vD, vU, VE.ev, VE.evs, retvs, tupOf, grab, vfill, vbsl, eqCells, eqCell, veqs, veqs1, vmnx, AV.isCell, AV.isUndef, Nat.reduceEqDiff, Nat.reduceAdd, Nat.reduceSub, Nat.reduceLeDiff, Nat.reduceLT, reduceIte, reduceCtorEq, Nat.reduceBEq, k_app, k_slc1]
  refine rng_of (gf := 121) (fs := []) (cs := [.ptr bf 0, .ptr bg 0]) ?_ ?_
  · simp only [↓vD, vU, VE.ev, VE.evs, retvs, tupOf, grab, vfill, vbsl, eqCells, eqCell, veqs, veqs1, vmnx, AV.isCell, AV.isUndef, Nat.reduceEqDiff, Nat.reduceAdd, Nat.reduceSub, Nat.reduceLeDiff, Nat.reduceLT, reduceIte, reduceCtorEq, Nat.reduceBEq, k_app, k_slc1]
  intro Y l D r hzy hl hD nlD hyY
  simp only [ins_objs, ite_some_none] at hl hD
  obtain ⟨ngb8, nb8g, ngb7, nb7g, ngb6, nb6g, ngb5, nb5g, hgn⟩ := hbg
  obtain ⟨nfb8, nb8f, nfb7, nb7f, nfb6, nb6f, nfb5, nb5f, hfn⟩ := hbf
  obtain ⟨nlg, ngl, nlf, nfl, nl8, n8l, nl7, n7l, nl6, n6l, nl5, n5l, hln⟩ := hl
  obtain ⟨nDg, ngD, nDf, nfD, nD8, n8D, nD7, n7D, nD6, n6D, nD5, n5D, hDn⟩ := hD
  have nDl : ¬ D = l := fun e => nlD e.symm
  have hmain := both_it (Y := Y) (l := l) f g t t' bf bg nfg (MS b5 b6 b7 b8 D l (.int .i64 a) (.int .i64 0) (.bool false) (.int .i64 0) (lobj r .ready none) st)
    (by simp only [MS, ins_objs, ite_some_none, *, not_false_eq_true, and_self, if_false]) (by simp only [MS, ins_objs, ite_some_none, *, not_false_eq_true, and_self, if_false])
    (fun k S => S = MS b5 b6 b7 b8 D l (.int .i64 a) (.int .i64 0) (.bool false) (.int .i64 0) (lobj r .ready none) st ∧ Hid (∀ j (h1 : j < k) (h2 : j < L.length), hitI a L[j] = false))
    (fun S => ∃ u, S = MS b5 b6 b7 b8 D l (.int .i64 a) (.int .i64 u) (.bool false) (.int .i64 0) (lobj r .done (some .ret)) st ∧ Hid (leFindI L (hitI a) = (u, false, 0)))
    (by rintro k S ⟨rfl, _⟩ i hi; exact MS_none rfl hi) (by rintro S ⟨u, rfl, _⟩ i hi; exact MS_none rfl hi)
    ⟨rfl, ⟨fun j h => by omega⟩⟩ ?_
  rotate_left
  · rw [HL.out]
    rintro k hk S b4 o2 o3 o4 ⟨rfl, HK⟩ hSf hSg hS4 nf4 ng4
    have n4f : ¬ b4 = bf := fun e => nf4 e.symm
    have n4g : ¬ b4 = bg := fun e => ng4 e.symm
    simp only [MS, ins_objs, ite_some_none] at hS4
    obtain ⟨n4l, nl4, n4D, nD4, n48, n84, n47, n74, n46, n64, n45, n54, hW4⟩ := hS4
    have hfind := fun h => find_at (p := hitI a) hk (fun j hj => HK.out j hj (by omega)) h
    obtain ⟨it, hit⟩ : ∃ it, L[k] = it := ⟨_, rfl⟩
    have HT := Hid.mk hit
    simp only [hit] at hfind ⊢
    obtain ⟨tt, va, vc⟩ := it
    have HF := Hid.mk hfind
    have hobD : st.objs D = none := hDn
    clear hit hfind
    refine hyY _ _ _ rfl (by simp only [XS, MS, ins_objs, *, if_true, if_false]) ?_
    rw [XS, MS]
    clear hyY
    (repeat' (first | (simp (config := { maxDischargeDepth := 16 }) only [*, argsFr2_t, argsFr2_d, nowA, qr_normal, qr_ret, qr_exit, vX, Int.reduceLE, Int.reduceLT, Int.reduceGE, Int.reduceGT, Int.reduceBEq, Int.reduceBNe, Int.reduceAdd, Int.reduceSub, Int.reduceMul, Int.reduceNeg, ↓vD, vU, VE.ev, VE.evs, retvs, tupOf, grab, vfill, vbsl, eqCells, eqCell, veqs, veqs1, vmnx, AV.isCell, AV.isUndef, Nat.reduceEqDiff, Nat.reduceAdd, Nat.reduceSub, Nat.reduceLeDiff, Nat.reduceLT, reduceIte, reduceCtorEq, Nat.reduceBEq]) | (simp (disch := first | assumption | omega | exact Seg.len _ | exact Vec.len _ | exact Leg.len _ | exact num_len _ | exact rowA_len _ | exact rowA_len | exact rowT_len _ | exact rowT_len | exact Seg.len | exact Vec.len | exact Leg.len | exact num_len | exact AV.slen _ _ | rfl) only [argsFr2_t, argsFr2_d, nowA, qr_normal, qr_ret, qr_exit, vP]) | (with_reducible (first | refine gsnd (fun _ => ?_) (fun _ => ?_) | refine csnd (fun _ => ?_) (fun _ => ?_) | refine gsd (fun _ => ?_) (fun _ => ?_) | refine csd (fun _ => ?_) (fun _ => ?_) | refine gsn (fun _ => ?_) (fun _ => ?_) | refine csn (fun _ => ?_) (fun _ => ?_))) | (with_reducible refine gs (fun _ => ?_) (fun _ => ?_)) | (with_reducible refine cs_ (fun _ => ?_) (fun _ => ?_)) | (with_reducible refine objQ_i (fun _ _ => ?_); (repeat (with_reducible refine imp_i (fun _ => ?_)))) | ((try with_reducible refine appK_a ?_); first | (with_reducible refine appD_F (by refine ⟨?_, ?_, ?_, ?_⟩ <;> (first | assumption | omega | exact St.has_add (by assumption) | (simp only [ins_has]; exact St.has_add (by assumption)) | (simp only [ins_has, fresh_ins, kill_ins, add_ins] at *; exact St.has_add (by assumption)) | (simp only [*, ins_has, has_full, St.has_add]; done) | (simp [-List.map_take, -List.map_drop, or_imp, forall_and, Seg.a, Vec.a, Leg.a, num, okEl, cells_agg, cells_int, cells_sl, cells_bool, AV.isCell]; done) | (simp; omega))) (fun _ _ => ?_)) | (with_reducible refine appD_V (by refine ⟨?_, ?_, ?_, ?_, ?_⟩ <;> (first | assumption | omega | exact St.has_add (by assumption) | (simp only [ins_has]; exact St.has_add (by assumption)) | (simp only [ins_has, fresh_ins, kill_ins, add_ins] at *; exact St.has_add (by assumption)) | (simp only [*, ins_has, has_full, St.has_add]; done) | (simp [-List.map_take, -List.map_drop, or_imp, forall_and, Seg.a, Vec.a, Leg.a, num, okEl, cells_agg, cells_int, cells_sl, cells_bool, AV.isCell]; done) | (simp; omega))) (fun _ _ => ?_))) | (with_reducible refine freshQ_i (fun _ _ => ?_)) | (with_reducible refine nilQ_i (fun _ _ => ?_)) | (with_reducible first | refine callH_use (LE_v _ _ _ _) ?_ | refine pureQ_use (LE_v _ _ _ _) ?_)))
    · have h3 : a ≤ tt := by assumption
      have h4 : (decide (va.m ≤ vc.m) && decide (va.c ≤ vc.c)) = false := by assumption
      have hh : hitI a (tt, va, vc) = true := by simp only [hitI, leV, h4, decide_eq_true h3]; rfl
      refine .inr ⟨rfl, MS b5 b6 b7 b8 D l (.int .i64 a) (.int .i64 tt) (.bool false) (.int .i64 0) (lobj r .done (some .ret)) st, ⟨tt, rfl, ⟨by rw [leFindI, HF.out hh]⟩⟩, ?_⟩
      rw [XS, MS]
      (refine leX.start ?_ rfl; (repeat (refine leX.in_ (by simp only [*, ins_objs, if_true, if_false]; first | done | rfl) ?_)); (repeat (first | refine leX.new (by first | assumption | (rw [hob]; assumption)) ?_ | refine leX.old (by (simp only [List.mem_cons, true_or, or_true, eq_self]; done)) ?_)); exact leX.refl _ _)
    all_goals
      have hh : hitI a (tt, va, vc) = false := by
        first
        | (simp only [hitI, decide_eq_false (by assumption : ¬ a ≤ tt)]; rfl)
        | (simp only [hitI, leV, (by assumption : (decide (va.m ≤ vc.m) && decide (va.c ≤ vc.c)) = true)]; simp)
      refine .inl ⟨rfl, MS b5 b6 b7 b8 D l (.int .i64 a) (.int .i64 0) (.bool false) (.int .i64 0) (lobj r .ready none) st, ⟨rfl, ⟨fun j h1 h2 => ?_⟩⟩, ?_⟩
      · rcases Nat.lt_or_ge j k with hjk | hjk
        · exact HK.out j hjk h2
        · have hj : j = k := by omega
          subst hj
          rw [HT.out]; exact hh
      · rw [XS, MS]
        clear hh
        (refine leX.start ?_ rfl; (repeat (refine leX.in_ (by simp only [*, ins_objs, if_true, if_false]; first | done | rfl) ?_)); (repeat (first | refine leX.new (by first | assumption | (rw [hob]; assumption)) ?_ | refine leX.old (by (simp only [List.mem_cons, true_or, or_true, eq_self]; done)) ?_)); exact leX.refl _ _)
  · refine VCalls.st_eq (VCalls.wk hmain ?_) (by rw [MS]; exact (by simp only [St.ins]; congr 1; funext i; (repeat' split) <;> (first | rfl | contradiction | (subst_vars; contradiction) | (subst_vars; rfl))))
    rintro v s ⟨rfl, S', hIE, hle⟩
    refine ⟨_, S', Wk.le hle _, ?_⟩
    clear hmain hle
    rcases hIE with ⟨rfl, HK⟩ | ⟨u, rfl, HE⟩
    · refine ⟨.ready, none, by simp, by simp [MS, St.ins], ?_⟩
      rw [jq_none, MS]
      rw [HL.out] at HK
      have hno := find_no (p := hitI a) (xs := L) (fun j h => HK.out j h h)
      have HO := Hid.mk hno
      clear hyY HK hno
      (repeat' (first | (simp (config := { maxDischargeDepth := 16 }) only [*, vX, Int.reduceLE, Int.reduceLT, Int.reduceGE, Int.reduceGT, Int.reduceBEq, Int.reduceBNe, Int.reduceAdd, Int.reduceSub, Int.reduceMul, Int.reduceNeg, ↓vD, vU, VE.ev, VE.evs, retvs, tupOf, grab, vfill, vbsl, eqCells, eqCell, veqs, veqs1, vmnx, AV.isCell, AV.isUndef, Nat.reduceEqDiff, Nat.reduceAdd, Nat.reduceSub, Nat.reduceLeDiff, Nat.reduceLT, reduceIte, reduceCtorEq, Nat.reduceBEq]) | (simp (disch := first | assumption | omega | exact Seg.len _ | exact Vec.len _ | exact Leg.len _ | exact num_len _ | exact rowA_len _ | exact rowA_len | exact rowT_len _ | exact rowT_len | exact Seg.len | exact Vec.len | exact Leg.len | exact num_len | exact AV.slen _ _ | rfl) only [vP]) | (with_reducible (first | refine gsnd (fun _ => ?_) (fun _ => ?_) | refine csnd (fun _ => ?_) (fun _ => ?_) | refine gsd (fun _ => ?_) (fun _ => ?_) | refine csd (fun _ => ?_) (fun _ => ?_) | refine gsn (fun _ => ?_) (fun _ => ?_) | refine csn (fun _ => ?_) (fun _ => ?_))) | (with_reducible refine gs (fun _ => ?_) (fun _ => ?_)) | (with_reducible refine cs_ (fun _ => ?_) (fun _ => ?_)) | (with_reducible refine objQ_i (fun _ _ => ?_); (repeat (with_reducible refine imp_i (fun _ => ?_)))) | ((try with_reducible refine appK_a ?_); first | (with_reducible refine appD_F (by refine ⟨?_, ?_, ?_, ?_⟩ <;> (first | assumption | omega | exact St.has_add (by assumption) | (simp only [ins_has]; exact St.has_add (by assumption)) | (simp only [ins_has, fresh_ins, kill_ins, add_ins] at *; exact St.has_add (by assumption)) | (simp only [*, ins_has, has_full, St.has_add]; done) | (simp [-List.map_take, -List.map_drop, or_imp, forall_and, Seg.a, Vec.a, Leg.a, num, okEl, cells_agg, cells_int, cells_sl, cells_bool, AV.isCell]; done) | (simp; omega))) (fun _ _ => ?_)) | (with_reducible refine appD_V (by refine ⟨?_, ?_, ?_, ?_, ?_⟩ <;> (first | assumption | omega | exact St.has_add (by assumption) | (simp only [ins_has]; exact St.has_add (by assumption)) | (simp only [ins_has, fresh_ins, kill_ins, add_ins] at *; exact St.has_add (by assumption)) | (simp only [*, ins_has, has_full, St.has_add]; done) | (simp [-List.map_take, -List.map_drop, or_imp, forall_and, Seg.a, Vec.a, Leg.a, num, okEl, cells_agg, cells_int, cells_sl, cells_bool, AV.isCell]; done) | (simp; omega))) (fun _ _ => ?_))) | (with_reducible refine freshQ_i (fun _ _ => ?_)) | (with_reducible refine nilQ_i (fun _ _ => ?_))))
      have hm : leC f g a = (0, true, 0) := by rw [HN.out, leFindI, HO.out]
      refine ⟨_, st, rfl, ?_, by simp, ?_, by rw [hm]; rfl, rfl⟩
      · intro D' hD'
        have : D' = D := by simpa using hD'
        subst this
        exact ⟨by simp only [*, ins_objs, if_true, if_false], hDn⟩
      · (refine leX.start ?_ rfl; (repeat (refine leX.in_ (by simp only [*, ins_objs, if_true, if_false]; first | done | rfl) ?_)); (repeat (first | refine leX.new (by first | assumption | (rw [hob]; assumption)) ?_ | refine leX.old (by (simp only [List.mem_cons, true_or, or_true, eq_self]; done)) ?_)); exact leX.refl _ _)
    · refine ⟨.done, some .ret, by simp, by simp [MS, St.ins], ?_⟩
      rw [jq_ret, MS]
      clear hyY
      (repeat' (first | (simp (config := { maxDischargeDepth := 16 }) only [*, vX, Int.reduceLE, Int.reduceLT, Int.reduceGE, Int.reduceGT, Int.reduceBEq, Int.reduceBNe, Int.reduceAdd, Int.reduceSub, Int.reduceMul, Int.reduceNeg, ↓vD, vU, VE.ev, VE.evs, retvs, tupOf, grab, vfill, vbsl, eqCells, eqCell, veqs, veqs1, vmnx, AV.isCell, AV.isUndef, Nat.reduceEqDiff, Nat.reduceAdd, Nat.reduceSub, Nat.reduceLeDiff, Nat.reduceLT, reduceIte, reduceCtorEq, Nat.reduceBEq]) | (simp (disch := first | assumption | omega | exact Seg.len _ | exact Vec.len _ | exact Leg.len _ | exact num_len _ | exact rowA_len _ | exact rowA_len | exact rowT_len _ | exact rowT_len | exact Seg.len | exact Vec.len | exact Leg.len | exact num_len | exact AV.slen _ _ | rfl) only [vP]) | (with_reducible (first | refine gsnd (fun _ => ?_) (fun _ => ?_) | refine csnd (fun _ => ?_) (fun _ => ?_) | refine gsd (fun _ => ?_) (fun _ => ?_) | refine csd (fun _ => ?_) (fun _ => ?_) | refine gsn (fun _ => ?_) (fun _ => ?_) | refine csn (fun _ => ?_) (fun _ => ?_))) | (with_reducible refine gs (fun _ => ?_) (fun _ => ?_)) | (with_reducible refine cs_ (fun _ => ?_) (fun _ => ?_)) | (with_reducible refine objQ_i (fun _ _ => ?_); (repeat (with_reducible refine imp_i (fun _ => ?_)))) | ((try with_reducible refine appK_a ?_); first | (with_reducible refine appD_F (by refine ⟨?_, ?_, ?_, ?_⟩ <;> (first | assumption | omega | exact St.has_add (by assumption) | (simp only [ins_has]; exact St.has_add (by assumption)) | (simp only [ins_has, fresh_ins, kill_ins, add_ins] at *; exact St.has_add (by assumption)) | (simp only [*, ins_has, has_full, St.has_add]; done) | (simp [-List.map_take, -List.map_drop, or_imp, forall_and, Seg.a, Vec.a, Leg.a, num, okEl, cells_agg, cells_int, cells_sl, cells_bool, AV.isCell]; done) | (simp; omega))) (fun _ _ => ?_)) | (with_reducible refine appD_V (by refine ⟨?_, ?_, ?_, ?_, ?_⟩ <;> (first | assumption | omega | exact St.has_add (by assumption) | (simp only [ins_has]; exact St.has_add (by assumption)) | (simp only [ins_has, fresh_ins, kill_ins, add_ins] at *; exact St.has_add (by assumption)) | (simp only [*, ins_has, has_full, St.has_add]; done) | (simp [-List.map_take, -List.map_drop, or_imp, forall_and, Seg.a, Vec.a, Leg.a, num, okEl, cells_agg, cells_int, cells_sl, cells_bool, AV.isCell]; done) | (simp; omega))) (fun _ _ => ?_))) | (with_reducible refine freshQ_i (fun _ _ => ?_)) | (with_reducible refine nilQ_i (fun _ _ => ?_))))
      have hm : leC f g a = (u, false, 0) := by rw [HN.out, HE.out]
      refine ⟨_, st, rfl, ?_, by simp, ?_, by rw [hm]; rfl, rfl⟩
      · intro D' hD'
        have : D' = D := by simpa using hD'
        subst this
        exact ⟨by simp only [*, ins_objs, if_true, if_false], hDn⟩
      · (refine leX.start ?_ rfl; (repeat (refine leX.in_ (by simp only [*, ins_objs, if_true, if_false]; first | done | rfl) ?_)); (repeat (first | refine leX.new (by first | assumption | (rw [hob]; assumption)) ?_ | refine leX.old (by (simp only [List.mem_cons, true_or, or_true, eq_self]; done)) ?_)); exact leX.refl _ _)
end Go.Proofs.Ytddbnncimggogaa.V
end
section
set_option linter.unusedSimpArgs false
set_option linter.unusedVariables false
/- What calc's functions mean: plain. -/
namespace Go.Proofs.Ytddbnncimggogaa.V
open Go Go.Proofs Go.Proofs.Ytddbnncimggogaa.SP
/-! ### Rising rows of times -/
theorem up_unique : ∀ (l m : List Int), l.Pairwise (· < ·) → m.Pairwise (· < ·) → (∀ x, x ∈ l ↔ x ∈ m) → l = m
  | [], [], _, _, _ => rfl
  | [], y :: m, _, _, h => absurd ((h y).2 (by simp)) (by simp)
  | x :: l, [], _, _, h => absurd ((h x).1 (by simp)) (by simp)
  | x :: l, y :: m, hl, hm, h => by
    have h1 := List.pairwise_cons.1 hl
    have h2 := List.pairwise_cons.1 hm
    have hxy : x = y := by
      have a := (h x).1 (by simp)
      have b := (h y).2 (by simp)
      rcases List.mem_cons.1 a with a | a
      · exact a
      · rcases List.mem_cons.1 b with b | b
        · exact b.symm
        · have := h1.1 y b; have := h2.1 x a; omega
    subst hxy
    congr 1
    refine up_unique l m h1.2 h2.2 (fun z => ⟨fun hz => ?_, fun hz => ?_⟩)
    · rcases List.mem_cons.1 ((h z).1 (by simp [hz])) with e | e
      · have := h1.1 z hz; omega
      · exact e
    · rcases List.mem_cons.1 ((h z).2 (by simp [hz])) with e | e
      · have := h2.1 z hz; omega
      · exact e
def insR : List Int → Int → List Int
  | [], x => [x]
  | y :: l, x => if y < x then y :: insR l x else if y = x then y :: l else x :: y :: l
theorem insT_R : ∀ (l : List Int) (x : Int), insT l x = insR l x
  | [], x => by simp [insT, insR, cntT]
  | y :: l, x => by
    have ih := insT_R l x
    unfold insT at ih
    unfold insT insR cntT
    by_cases h : y < x
    · rw [if_pos h, if_pos h]
      simp only [List.getElem?_cons_succ, List.take_succ_cons, List.drop_succ_cons, List.cons_append]
      rw [← ih]
      split <;> rfl
    · rw [if_neg h, if_neg h]
      by_cases h2 : y = x
      · simp [h2]
      · simp [h2]
theorem mem_insR : ∀ (l : List Int) (x z : Int), z ∈ insR l x ↔ z = x ∨ z ∈ l
  | [], x, z => by simp [insR]
  | y :: l, x, z => by
    unfold insR
    split
    · simp only [List.mem_cons, mem_insR l x z]; grind
    · split <;> simp only [List.mem_cons] <;> grind
theorem up_insR : ∀ (l : List Int) (x : Int), l.Pairwise (· < ·) → (insR l x).Pairwise (· < ·)
  | [], x, _ => by simp [insR]
  | y :: l, x, h => by
    have hy := List.pairwise_cons.1 h
    unfold insR
    split
    · rename_i h1
      refine List.pairwise_cons.2 ⟨fun z hz => ?_, up_insR l x hy.2⟩
      rcases (mem_insR l x z).1 hz with rfl | hz
      · exact h1
      · exact hy.1 z hz
    · split
      · exact h
      · refine List.pairwise_cons.2 ⟨fun z hz => ?_, h⟩
        rcases List.mem_cons.1 hz with rfl | hz
        · omega
        · have := hy.1 z hz; omega
theorem times_fold : ∀ (l acc : List Int), acc.Pairwise (· < ·) → (l.foldl insT acc).Pairwise (· < ·) ∧ ∀ z, z ∈ l.foldl insT acc ↔ z ∈ acc ∨ z ∈ l
  | [], acc, h => ⟨h, by simp⟩
  | x :: l, acc, h => by
    have h1 : (insT acc x).Pairwise (· < ·) := by rw [insT_R]; exact up_insR acc x h
    obtain ⟨a, b⟩ := times_fold l (insT acc x) h1
    refine ⟨a, fun z => ?_⟩
    rw [List.foldl_cons, b z, insT_R, mem_insR, List.mem_cons]
    grind
theorem timesF_up (l : List Int) : (timesF l).Pairwise (· < ·) := (times_fold l [] List.Pairwise.nil).1
theorem mem_timesF (l : List Int) (z : Int) : z ∈ timesF l ↔ z ∈ l := by
  have := (times_fold l [] List.Pairwise.nil).2 z
  simpa [timesF] using this
theorem timesF_self {l : List Int} (h : l.Pairwise (· < ·)) : timesF l = l := up_unique _ _ (timesF_up l) h (mem_timesF l)
/-! ### What may be -/
def mayL : List Seg → Vec → Int → Bool
  | [], _, _ => true
  | x :: r, l, a => !odd l a x && mayL r x.v x.t
def oddG (l : Vec) (a : Int) (xs : List Seg) (k : Nat) : Bool := (xs[k]?.map (odd (if k = 0 then l else (xs[k - 1]?.map (·.v)).getD v0) (if k = 0 then a else (xs[k - 1]?.map (·.t)).getD 0))).getD false
theorem mayL_any : ∀ (xs : List Seg) (l : Vec) (a : Int), (List.range xs.length).any (oddG l a xs) = !mayL xs l a
  | [], l, a => rfl
  | x :: r, l, a => by
    have ih := mayL_any r x.v x.t
    rw [List.length_cons, List.range_succ_eq_map, List.any_cons, List.any_map]
    have e : (oddG l a (x :: r)) ∘ Nat.succ = oddG x.v x.t r := by
      funext k
      cases k with
      | zero => simp [oddG]
      | succ k => simp [oddG]
    rw [e, ih]
    simp [oddG, mayL]
theorem mayF_L (xs : List Seg) : mayF xs = mayL xs v0 (-1125899906842625) := by
  have h := mayL_any xs v0 (-1125899906842625)
  have e : oddI xs = oddG v0 (-1125899906842625) xs := by funext k; rfl
  unfold mayF
  rw [e, h]; simp
theorem mayL_iff : ∀ (xs : List Seg) (l : Vec) (a : Int), mayL xs l a = true ↔ Canon xs l ∧ (∀ x ∈ xs, inSeg x = true) ∧ ∀ x ∈ xs, a < x.t
  | [], l, a => by simp [mayL, Canon]
  | x :: r, l, a => by
    rw [mayL, Bool.and_eq_true, mayL_iff r x.v x.t, Canon]
    have ho : (!odd l a x) = true ↔ inSeg x = true ∧ ¬ x.v = l ∧ a < x.t := by
      unfold odd
      simp only [Bool.not_eq_true', Bool.or_eq_false_iff, beq_eq_false_iff_ne, ne_eq, decide_eq_false_iff_not, Bool.not_eq_false']
      constructor
      · rintro ⟨⟨h1, h2⟩, h3⟩; exact ⟨h1, h2, by omega⟩
      · rintro ⟨h1, h2, h3⟩; exact ⟨⟨h1, h2⟩, by omega⟩
    rw [ho]
    constructor
    · rintro ⟨⟨h1, h2, h3⟩, h4, h5, h6⟩
      refine ⟨⟨h2, h6, h4⟩, fun y hy => ?_, fun y hy => ?_⟩
      · rcases List.mem_cons.1 hy with rfl | hy
        · exact h1
        · exact h5 y hy
      · rcases List.mem_cons.1 hy with rfl | hy
        · exact h3
        · have := h6 y hy; omega
    · rintro ⟨⟨h2, h6, h4⟩, h5, h7⟩
      exact ⟨⟨h5 x (by simp), h2, h7 x (by simp)⟩, h4, fun y hy => h5 y (by simp [hy]), h6⟩
theorem mayF_iff (xs : List Seg) : mayF xs = true ↔ Canon xs v0 ∧ ∀ x ∈ xs, inSeg x = true := by
  rw [mayF_L, mayL_iff]
  refine ⟨fun h => ⟨h.1, h.2.1⟩, fun h => ⟨h.1, h.2, fun x hx => ?_⟩⟩
  have := h.2 x hx
  unfold inSeg inR at this
  simp only [Bool.and_eq_true, decide_eq_true_eq] at this
  omega
theorem Canon.up : ∀ {xs : List Seg} {l : Vec}, Canon xs l → (xs.map (·.t)).Pairwise (· < ·)
  | [], _, _ => List.Pairwise.nil
  | x :: r, l, h => by
    rw [List.map_cons, List.pairwise_cons]
    refine ⟨fun z hz => ?_, h.2.2.up⟩
    obtain ⟨y, hy, rfl⟩ := List.mem_map.1 hz
    exact h.2.1 y hy
/-! ### Both at once -/
theorem atF_P (xs : List Seg) (t : Int) : atF xs t = atP v0 xs t := rfl
theorem both_spec : ∀ (f g : List Seg) (a b : Vec), (f.map (·.t)).Pairwise (· < ·) → (g.map (·.t)).Pairwise (· < ·) →
    ((bothF f g a b).map (·.1)).Pairwise (· < ·) ∧ (∀ t, t ∈ (bothF f g a b).map (·.1) ↔ t ∈ f.map (·.t) ∨ t ∈ g.map (·.t)) ∧ ∀ it ∈ bothF f g a b, it.2.1 = atP a f it.1 ∧ it.2.2 = atP b g it.1
  | [], [], a, b, _, _ => by rw [bothF]; simp
  | x :: f, [], a, b, hf, hg => by
    rw [List.map_cons, List.pairwise_cons] at hf
    obtain ⟨h1, h2, h3⟩ := both_spec f [] x.v b hf.2 hg
    have hlt : ∀ t ∈ (bothF f [] x.v b).map (·.1), x.t < t := fun t ht => hf.1 t (by rcases (h2 t).1 ht with h | h; exact h; simp at h)
    rw [bothF]
    refine ⟨by rw [List.map_cons, List.pairwise_cons]; exact ⟨hlt, h1⟩, fun t => ?_, fun it hit => ?_⟩
    · rw [List.map_cons, List.mem_cons, h2 t]; simp
    · rcases List.mem_cons.1 hit with rfl | hit
      · refine ⟨?_, rfl⟩
        rw [atP_cons _ _ _ _ (Int.le_refl _), atP_late _ _ _ (fun z hz => hf.1 z.t (List.mem_map.2 ⟨z, hz, rfl⟩))]
      · have hl := hlt it.1 (List.mem_map.2 ⟨it, hit, rfl⟩)
        rw [atP_cons _ _ _ _ (by omega)]
        exact h3 it hit
  | [], y :: g, a, b, hf, hg => by
    rw [List.map_cons, List.pairwise_cons] at hg
    obtain ⟨h1, h2, h3⟩ := both_spec [] g a y.v hf hg.2
    have hlt : ∀ t ∈ (bothF [] g a y.v).map (·.1), y.t < t := fun t ht => hg.1 t (by rcases (h2 t).1 ht with h | h; simp at h; exact h)
    rw [bothF]
    refine ⟨by rw [List.map_cons, List.pairwise_cons]; exact ⟨hlt, h1⟩, fun t => ?_, fun it hit => ?_⟩
    · rw [List.map_cons, List.mem_cons, h2 t]; simp
    · rcases List.mem_cons.1 hit with rfl | hit
      · refine ⟨rfl, ?_⟩
        rw [atP_cons _ _ _ _ (Int.le_refl _), atP_late _ _ _ (fun z hz => hg.1 z.t (List.mem_map.2 ⟨z, hz, rfl⟩))]
      · have hl := hlt it.1 (List.mem_map.2 ⟨it, hit, rfl⟩)
        rw [atP_cons b _ _ _ (by omega)]
        exact h3 it hit
  | x :: f, y :: g, a, b, hf, hg => by
    have hf' := hf; have hg' := hg
    rw [List.map_cons, List.pairwise_cons] at hf hg
    have lateF : ∀ t, t ≤ x.t → ∀ z ∈ f, t < z.t := fun t ht z hz => by have := hf.1 z.t (List.mem_map.2 ⟨z, hz, rfl⟩); omega
    have lateG : ∀ t, t ≤ y.t → ∀ z ∈ g, t < z.t := fun t ht z hz => by have := hg.1 z.t (List.mem_map.2 ⟨z, hz, rfl⟩); omega
    rw [bothF]
    split
    · rename_i c
      obtain ⟨h1, h2, h3⟩ := both_spec f (y :: g) x.v b hf.2 hg'
      have hlt : ∀ t ∈ (bothF f (y :: g) x.v b).map (·.1), x.t < t := fun t ht => by
        rcases (h2 t).1 ht with h | h
        · exact hf.1 t h
        · rw [List.map_cons, List.mem_cons] at h
          rcases h with rfl | h
          · exact c
          · have := hg.1 t h; omega
      refine ⟨by rw [List.map_cons, List.pairwise_cons]; exact ⟨hlt, h1⟩, fun t => ?_, fun it hit => ?_⟩
      · rw [List.map_cons, List.mem_cons, h2 t]; simp only [List.map_cons, List.mem_cons]; grind
      · rcases List.mem_cons.1 hit with rfl | hit
        · refine ⟨?_, ?_⟩
          · rw [atP_cons _ _ _ _ (Int.le_refl _), atP_late _ _ _ (lateF _ (Int.le_refl _))]
          · rw [atP_late b _ _ (fun z hz => by rcases List.mem_cons.1 hz with rfl | hz; exact c; exact lateG _ (Int.le_of_lt c) z hz)]
        · have hl := hlt it.1 (List.mem_map.2 ⟨it, hit, rfl⟩)
          rw [atP_cons a _ _ _ (by omega)]
          exact h3 it hit
    · split
      · rename_i c0 c
        obtain ⟨h1, h2, h3⟩ := both_spec (x :: f) g a y.v hf' hg.2
        have hlt : ∀ t ∈ (bothF (x :: f) g a y.v).map (·.1), y.t < t := fun t ht => by
          rcases (h2 t).1 ht with h | h
          · rw [List.map_cons, List.mem_cons] at h
            rcases h with rfl | h
            · exact c
            · have := hf.1 t h; omega
          · exact hg.1 t h
        refine ⟨by rw [List.map_cons, List.pairwise_cons]; exact ⟨hlt, h1⟩, fun t => ?_, fun it hit => ?_⟩
        · rw [List.map_cons, List.mem_cons, h2 t]; simp only [List.map_cons, List.mem_cons]; grind
        · rcases List.mem_cons.1 hit with rfl | hit
          · refine ⟨?_, ?_⟩
            · rw [atP_late a _ _ (fun z hz => by rcases List.mem_cons.1 hz with rfl | hz; exact c; exact lateF _ (Int.le_of_lt c) z hz)]
            · rw [atP_cons _ _ _ _ (Int.le_refl _), atP_late _ _ _ (lateG _ (Int.le_refl _))]
          · have hl := hlt it.1 (List.mem_map.2 ⟨it, hit, rfl⟩)
            rw [atP_cons b _ _ _ (by omega)]
            exact h3 it hit
      · rename_i c0 c1
        have c : x.t = y.t := by omega
        obtain ⟨h1, h2, h3⟩ := both_spec f g x.v y.v hf.2 hg.2
        have hlt : ∀ t ∈ (bothF f g x.v y.v).map (·.1), x.t < t := fun t ht => by
          rcases (h2 t).1 ht with h | h
          · exact hf.1 t h
          · have := hg.1 t h; omega
        refine ⟨by rw [List.map_cons, List.pairwise_cons]; exact ⟨hlt, h1⟩, fun t => ?_, fun it hit => ?_⟩
        · rw [List.map_cons, List.mem_cons, h2 t]; simp only [List.map_cons, List.mem_cons]; grind
        · rcases List.mem_cons.1 hit with rfl | hit
          · refine ⟨?_, ?_⟩
            · rw [atP_cons _ _ _ _ (Int.le_refl _), atP_late _ _ _ (lateF _ (Int.le_refl _))]
            · rw [atP_cons _ _ _ _ (by omega), atP_late _ _ _ (lateG _ (by omega))]
          · have hl := hlt it.1 (List.mem_map.2 ⟨it, hit, rfl⟩)
            rw [atP_cons a _ _ _ (by omega), atP_cons b _ _ _ (by omega)]
            exact h3 it hit
termination_by f g => f.length + g.length
theorem both_times (f g : List Seg) (hf : (f.map (·.t)).Pairwise (· < ·)) (hg : (g.map (·.t)).Pairwise (· < ·)) : bothF f g v0 v0 = (timesF (f.map (·.t) ++ g.map (·.t))).map fun t => (t, atF f t, atF g t) := by
  obtain ⟨h1, h2, h3⟩ := both_spec f g v0 v0 hf hg
  have e : (bothF f g v0 v0).map (·.1) = timesF (f.map (·.t) ++ g.map (·.t)) := up_unique _ _ h1 (timesF_up _) (fun t => by rw [h2 t, mem_timesF, List.mem_append])
  rw [← e, List.map_map]
  conv => lhs; rw [← List.map_id (bothF f g v0 v0)]
  refine List.map_congr_left (fun it hit => ?_)
  obtain ⟨a, b⟩ := h3 it hit
  obtain ⟨t, u, v⟩ := it
  simp only at a b
  simp [atF_P, ← a, ← b]
end Go.Proofs.Ytddbnncimggogaa.V
end
section
set_option linter.unusedSimpArgs false
set_option linter.unusedVariables false
/- calc's functions are the document's: plain. -/
namespace Go.Proofs.Ytddbnncimggogaa.V
open Go Go.Proofs Go.Proofs.Ytddbnncimggogaa.SP
theorem inR_iff (n : Int) : inR n = true ↔ -1125899906842624 ≤ n ∧ n ≤ 1125899906842624 := by unfold inR; simp
theorem mayV_iff (v : Vec) : mayV v = true ↔ (-1125899906842624 ≤ v.m ∧ v.m ≤ 1125899906842624) ∧ (-1125899906842624 ≤ v.c ∧ v.c ≤ 1125899906842624) := by
  unfold mayV; rw [Bool.and_eq_true, inR_iff, inR_iff]
theorem wr_id {n : Int} (h1 : -9223372036854775808 ≤ n) (h2 : n ≤ 9223372036854775807) : wr n = n := wrap_i64 n h1 h2
theorem atF_may {f : List Seg} (h : ∀ x ∈ f, inSeg x = true) (t : Int) : mayV (atF f t) = true := by
  unfold atF
  have : ∀ (l : List Seg) (v : Vec), (∀ x ∈ l, inSeg x = true) → mayV v = true → mayV (l.foldl (fun v x => if x.t ≤ t then x.v else v) v) = true := by
    intro l
    induction l with
    | nil => intro v _ hv; exact hv
    | cons x l ih =>
      intro v hl hv
      rw [List.foldl_cons]
      refine ih _ (fun y hy => hl y (by simp [hy])) ?_
      split
      · have := hl x (by simp)
        unfold inSeg at this
        rw [Bool.and_eq_true] at this
        exact this.2
      · exact hv
  exact this f v0 h rfl
theorem told1_all (x : Vec) (l : List Vec) (h : ∀ v ∈ l, mayV v = true) : told1 x l = toldF x := by
  unfold told1 toldF
  have : (x :: l).all mayV = mayV x := by
    rw [List.all_cons, List.all_eq_true.2 h, Bool.and_true]
  rw [this]
theorem sub_one (a b : Vec) (ha : mayV a = true) (hb : mayV b = true) : subV a b = oneR 1 a b := by
  have h1 := (mayV_iff a).1 ha
  have h2 := (mayV_iff b).1 hb
  have hn : mayV ⟨wr (-b.m), wr (-b.c)⟩ = true := by
    rw [mayV_iff, wr_id (by omega) (by omega), wr_id (by omega) (by omega)]; simp only; omega
  unfold subV oneR subR addR
  rw [told1_all _ _ (by simp [ha, hb]), if_neg (by omega), if_pos rfl, if_pos hb, if_pos (by rw [ha, hn]; rfl)]
  simp only
  rw [wr_id (n := -b.m) (by omega) (by omega), wr_id (n := -b.c) (by omega) (by omega)]
  rfl
theorem add_one (a b : Vec) (ha : mayV a = true) (hb : mayV b = true) : add2 a b = oneR 0 a b := by
  have h1 := (mayV_iff a).1 ha
  have e : (⟨wr (v0.m + a.m), wr (v0.c + a.c)⟩ : Vec) = a := by
    rw [wr_id (by simp only [v0]; omega) (by simp only [v0]; omega), wr_id (by simp only [v0]; omega) (by simp only [v0]; omega)]
    simp [v0]
  unfold add2 addF oneR addR
  simp only
  rw [e, told1_all a [a] (by simp [ha])]
  have ht : toldF a = (a, 0) := by unfold toldF; rw [if_pos ha]
  rw [ht]
  simp only [if_true]
  unfold addF
  simp only
  rw [told1_all _ [b] (by simp [hb])]
  simp only [ha, hb, Bool.and_self, if_true]
  unfold toldF
  split <;> simp [addF]
theorem oneR_may (w : Int) (a b : Vec) (ha : mayV a = true) (hb : mayV b = true) (h : (oneR w a b).2 = 0) : mayV (oneR w a b).1 = true := by
  have h1 := (mayV_iff a).1 ha
  have h2 := (mayV_iff b).1 hb
  unfold oneR at h ⊢
  split
  · rename_i c
    rw [if_pos c] at h
    unfold addR toldF at h ⊢
    repeat' split
    all_goals simp_all
  · rename_i c
    rw [if_neg c] at h
    split
    · rename_i c2
      rw [if_pos c2] at h
      unfold subR addR toldF at h ⊢
      repeat' split
      all_goals simp_all
    · split
      · rw [mayV_iff]; simp only [minV]; omega
      · rw [mayV_iff]; simp only [maxV]; omega
/-! ### Values one behind the other -/
def withs (h : Int → Vec) (ts : List Int) (acc : List Seg) : List Seg := ts.foldl (fun f t => withF f t (h t)) acc
theorem lastW_snoc (f : List Seg) (x : Seg) : lastW (f ++ [x]) = x.v := by simp [lastW]
/-! ### The document's function of two -/
theorem doF_ok (w : Int) (f g : List Seg) : ∀ (ts : List Int) (acc : List Seg), (∀ t ∈ ts, (oneR w (atF f t) (atF g t)).2 = 0) → doF w f g ts acc = (withs (fun t => (oneR w (atF f t) (atF g t)).1) ts acc, 0)
  | [], acc, _ => rfl
  | t :: ts, acc, h => by
    unfold doF
    rw [if_pos (h t (by simp)), doF_ok w f g ts _ (fun s hs => h s (by simp [hs]))]
    rfl
theorem doF_bad (w : Int) (f g : List Seg) : ∀ (ts : List Int) (acc : List Seg), (∃ t ∈ ts, ¬ (oneR w (atF f t) (atF g t)).2 = 0) → doF w f g ts acc = ([], 10)
  | [], acc, h => by obtain ⟨t, ht, _⟩ := h; cases ht
  | t :: ts, acc, ⟨s, hs, he⟩ => by
    unfold doF
    split
    · rename_i h0
      refine doF_bad w f g ts _ ⟨s, ?_, he⟩
      rcases List.mem_cons.1 hs with rfl | hs
      · exact absurd h0 he
      · exact hs
    · rfl
/-! ### The program's way -/
theorem srt_self {xs : List Seg} (h : (xs.map (·.t)).Pairwise (· < ·)) : sortS (ltB cmpS) xs = xs := by
  refine (sortS_of swoS ?_ (Stb.refl _)).symm
  rw [List.pairwise_map] at h
  exact h.imp (fun {a b} hab => by rw [ltS]; simp; omega)
theorem fold_withs : ∀ (xs acc : List Seg), (xs.map (·.t)).Pairwise (· < ·) → foldB xs acc (lastW acc) = xs.foldl (fun f x => withF f x.t x.v) acc
  | [], acc, _ => rfl
  | x :: xs, acc, h => by
    rw [List.map_cons, List.pairwise_cons] at h
    have hn : nextB x xs = true := by
      cases xs with
      | nil => rfl
      | cons y xs => have := h.1 y.t (by simp); simp [nextB]; omega
    rw [foldB, if_pos hn, List.foldl_cons]
    have e : (putF acc (lastW acc) x).1 = withF acc x.t x.v ∧ (putF acc (lastW acc) x).2 = lastW (withF acc x.t x.v) := by
      unfold putF withF
      split
      · exact ⟨rfl, rfl⟩
      · exact ⟨by simp, (lastW_snoc _ _).symm⟩
    rw [e.1, e.2]
    exact fold_withs xs _ h.2
theorem rawJ_ok (jf : Vec → Vec → Vec × Int) : ∀ (L : List (Int × Vec × Vec)) (acc : List Seg), (∀ it ∈ L, (jf it.2.1 it.2.2).2 = 0) → rawJ jf L acc = (acc ++ L.map (fun it => ⟨it.1, (jf it.2.1 it.2.2).1⟩), 0)
  | [], acc, _ => by simp [rawJ]
  | it :: L, acc, h => by
    unfold rawJ
    rw [if_pos (h it (by simp)), rawJ_ok jf L _ (fun x hx => h x (by simp [hx]))]
    simp
theorem rawJ_bad (jf : Vec → Vec → Vec × Int) (he : ∀ a b, (jf a b).2 = 0 ∨ (jf a b).2 = 10) : ∀ (L : List (Int × Vec × Vec)) (acc : List Seg), (∃ it ∈ L, ¬ (jf it.2.1 it.2.2).2 = 0) → rawJ jf L acc = ([], 10)
  | [], acc, h => by obtain ⟨t, ht, _⟩ := h; cases ht
  | it :: L, acc, ⟨s, hs, h0⟩ => by
    unfold rawJ
    split
    · rename_i h1
      refine rawJ_bad jf he L _ ⟨s, ?_, h0⟩
      rcases List.mem_cons.1 hs with rfl | hs
      · exact absurd h1 h0
      · exact hs
    · rename_i h1
      rw [(he _ _).resolve_left h1]
/-- What the program makes of two functions is what the document says. -/
theorem made_do (w : Int) (jf : Vec → Vec → Vec × Int) (hj : ∀ a b, mayV a = true → mayV b = true → jf a b = oneR w a b) (he : ∀ a b, (jf a b).2 = 0 ∨ (jf a b).2 = 10) (f g : List Seg) : madeF jf f g = doR w f g := by
  by_cases hfg : (mayF f && mayF g) = true
  case neg =>
    unfold madeF doR
    rw [if_neg hfg, if_neg hfg]
  rw [Bool.and_eq_true] at hfg
  obtain ⟨hf, hg⟩ := hfg
  obtain ⟨cf, sf⟩ := (mayF_iff f).1 hf
  obtain ⟨cg, sg⟩ := (mayF_iff g).1 hg
  have hb := both_times f g cf.up cg.up
  have hts := timesF_up (f.map (·.t) ++ g.map (·.t))
  have hmem : ∀ t, t ∈ timesF (f.map (·.t) ++ g.map (·.t)) → (∃ x ∈ f, x.t = t) ∨ ∃ x ∈ g, x.t = t := fun t => by
    rw [mem_timesF, List.mem_append, List.mem_map, List.mem_map]; exact id
  obtain ⟨ts, hts0⟩ : ∃ ts, timesF (f.map (·.t) ++ g.map (·.t)) = ts := ⟨_, rfl⟩
  rw [hts0] at hb hts
  simp only [hts0] at hmem
  have hjt : ∀ t, jf (atF f t) (atF g t) = oneR w (atF f t) (atF g t) := fun t => hj _ _ (atF_may sf t) (atF_may sg t)
  have hdo : doR w f g = doF w f g ts [] := by unfold doR; rw [hf, hg, hts0]; rfl
  have hmade : madeF jf f g = if (rawJ jf (bothF f g v0 v0) []).2 = 0 then ofF (rawJ jf (bothF f g v0 v0) []).1 else ([], (rawJ jf (bothF f g v0 v0) []).2) := by unfold madeF; rw [hf, hg]; rfl
  rw [hdo, hmade, hb]
  by_cases hall : ∀ t ∈ ts, (oneR w (atF f t) (atF g t)).2 = 0
  · rw [rawJ_ok jf _ [] (fun it hit => by obtain ⟨t, ht, rfl⟩ := List.mem_map.1 hit; rw [show (jf (atF f t) (atF g t)).2 = _ from by rw [hjt]]; exact hall t ht), if_pos rfl, doF_ok w f g ts [] hall]
    simp only [List.nil_append, List.map_map]
    have e : (ts.map ((fun it : Int × Vec × Vec => (⟨it.1, (jf it.2.1 it.2.2).1⟩ : Seg)) ∘ fun t => (t, atF f t, atF g t))) = ts.map (fun t => (⟨t, (oneR w (atF f t) (atF g t)).1⟩ : Seg)) := List.map_congr_left (fun t _ => by simp [hjt])
    rw [e]
    have hup : ((ts.map (fun t => (⟨t, (oneR w (atF f t) (atF g t)).1⟩ : Seg))).map (·.t)).Pairwise (· < ·) := by
      rw [List.map_map]
      have : ((fun x : Seg => x.t) ∘ fun t => (⟨t, (oneR w (atF f t) (atF g t)).1⟩ : Seg)) = id := rfl
      rw [this, List.map_id]; exact hts
    have hin : (ts.map (fun t => (⟨t, (oneR w (atF f t) (atF g t)).1⟩ : Seg))).all inSeg = true := by
      rw [List.all_eq_true]
      intro x hx
      obtain ⟨t, ht, rfl⟩ := List.mem_map.1 hx
      have hm := oneR_may w _ _ (atF_may sf t) (atF_may sg t) (hall t ht)
      have hr : inR t = true := by
        rcases hmem t ht with ⟨y, hy, rfl⟩ | ⟨y, hy, rfl⟩
        · have := sf y hy; unfold inSeg at this; rw [Bool.and_eq_true] at this; exact this.1
        · have := sg y hy; unfold inSeg at this; rw [Bool.and_eq_true] at this; exact this.1
      unfold inSeg; rw [hr, hm]; rfl
    unfold ofF
    rw [if_pos hin]
    have hfold : foldF (ts.map (fun t => (⟨t, (oneR w (atF f t) (atF g t)).1⟩ : Seg))) = withs (fun t => (oneR w (atF f t) (atF g t)).1) ts [] := by
      unfold foldF
      rw [srt_self hup]
      have := fold_withs (ts.map (fun t => (⟨t, (oneR w (atF f t) (atF g t)).1⟩ : Seg))) [] hup
      rw [show lastW [] = v0 from rfl] at this
      rw [this, List.foldl_map]; rfl
    rw [hfold]
  · have hex : ∃ t ∈ ts, ¬ (oneR w (atF f t) (atF g t)).2 = 0 := by
      rcases Classical.em (∃ t ∈ ts, ¬ (oneR w (atF f t) (atF g t)).2 = 0) with h | h
      · exact h
      · exact absurd (fun t ht => Classical.byContradiction fun hn => h ⟨t, ht, hn⟩) hall
    obtain ⟨t, ht, he0⟩ := hex
    rw [rawJ_bad jf he _ [] ⟨(t, atF f t, atF g t), List.mem_map.2 ⟨t, ht, rfl⟩, by simp only; rw [hjt]; exact he0⟩, if_neg (by decide), doF_bad w f g ts [] ⟨t, ht, he0⟩]
end Go.Proofs.Ytddbnncimggogaa.V
end
section
set_option linter.unusedSimpArgs false
set_option linter.unusedVariables false
/- calc.LE, Add are the document's; what being at most says: plain. -/
namespace Go.Proofs.Ytddbnncimggogaa.V
open Go Go.Proofs Go.Proofs.Ytddbnncimggogaa.SP
theorem sub_do (f g : List Seg) : madeF subV f g = doR 1 f g := made_do 1 subV sub_one (fun a b => by unfold subV told1; split <;> simp) f g
theorem told1_err (x : Vec) (l : List Vec) : (told1 x l).2 = 0 ∨ (told1 x l).2 = 10 := by unfold told1; split <;> simp
theorem addF_err : ∀ (l : List Vec) (s : Vec), (addF l s).2 = 0 ∨ (addF l s).2 = 10
  | [], s => .inl rfl
  | v :: r, s => by
    unfold addF
    simp only
    split
    · exact addF_err r _
    · rename_i h; exact .inr ((told1_err _ _).resolve_left h)
theorem add2_err (a b : Vec) : (add2 a b).2 = 0 ∨ (add2 a b).2 = 10 := addF_err _ _
theorem add_do (f g : List Seg) : madeF add2 f g = doR 0 f g := made_do 0 add2 add_one add2_err f g
theorem min_do (f g : List Seg) : madeF (fun a b => (minV a b, 0)) f g = doR 2 f g := made_do 2 _ (fun a b _ _ => by unfold oneR; simp) (fun a b => .inl rfl) f g
theorem max_do (f g : List Seg) : madeF (fun a b => (maxV a b, 0)) f g = doR 3 f g := made_do 3 _ (fun a b _ _ => by unfold oneR; simp) (fun a b => .inl rfl) f g
theorem addG_sum : ∀ (ls : List (List Seg)) (acc : List Seg), addG ls acc = sumF ls acc
  | [], acc => rfl
  | x :: ls, acc => by unfold addG sumF; rw [add_do, addG_sum ls]
theorem addC_sum (ls : List (List Seg)) : addC ls = sumR ls := by unfold addC sumR; rw [addG_sum]
/-! ### Being at most -/
theorem find_insR_no (p : Int → Bool) (x : Int) (hp : p x = false) : ∀ (l : List Int), (insR l x).find? p = l.find? p
  | [] => by simp [insR, hp]
  | y :: l => by
    unfold insR
    split
    · rw [List.find?_cons, List.find?_cons, find_insR_no p x hp l]
    · split
      · rfl
      · rw [List.find?_cons, hp]
theorem find_insR_yes (p : Int → Bool) (x : Int) (hp : p x = true) (hl : ∀ y, y < x → p y = false) : ∀ (l : List Int), (insR l x).find? p = some x
  | [] => by simp [insR, hp]
  | y :: l => by
    unfold insR
    split
    · rename_i h; rw [List.find?_cons, hl y h]; exact find_insR_yes p x hp hl l
    · split
      · rename_i h; rw [List.find?_cons, h, hp]
      · rw [List.find?_cons, hp]
theorem le_do (f g : List Seg) (a : Int) : leC f g a = leR f g a := by
  by_cases hfg : (mayF f && mayF g) = true
  case neg => unfold leC leR; rw [if_neg hfg, if_neg hfg]
  have h2 := hfg
  rw [Bool.and_eq_true] at h2
  obtain ⟨cf, _⟩ := (mayF_iff f).1 h2.1
  obtain ⟨cg, _⟩ := (mayF_iff g).1 h2.2
  unfold leC leR
  rw [if_pos hfg, if_pos hfg, both_times f g cf.up cg.up]
  have hts := timesF_up (f.map (·.t) ++ g.map (·.t))
  obtain ⟨ts, hts0⟩ : ∃ ts, timesF (f.map (·.t) ++ g.map (·.t)) = ts := ⟨_, rfl⟩
  rw [hts0] at hts ⊢
  rw [timesF_snoc, timesF_self hts, insT_R]
  have early : ∀ y, y < a → leHit f g a y = false := fun y hy => by unfold leHit; rw [decide_eq_false (by omega)]; rfl
  cases hle : leV (atF f a) (atF g a) with
  | false =>
    have hp : leHit f g a a = true := by unfold leHit; rw [hle, decide_eq_true (Int.le_refl a)]; rfl
    unfold leFind
    rw [find_insR_yes _ a hp early]; rfl
  | true =>
    have hp : leHit f g a a = false := by unfold leHit; rw [hle]; simp
    unfold leFind leFindI
    rw [find_insR_no _ a hp, if_pos rfl, List.find?_map]
    have e : (hitI a ∘ fun t => (t, atF f t, atF g t)) = leHit f g a := rfl
    rw [e]
    cases ts.find? (leHit f g a) <;> rfl
end Go.Proofs.Ytddbnncimggogaa.V
end
section
set_option linter.unusedSimpArgs false
set_option linter.unusedVariables false
/- The compiled functions of the package liverylaw03 (printed by Print.lean of this work). -/
namespace Go.Proofs.Ytddbnncimggogaa.V
open Go Go.Proofs
def v_liverylaw03_CalcTells : VFn := ⟨.seq (.reg [⟨some 6, .mov (.c (.bool false)), none, [], []⟩])
(.seq (.seq (.reg [⟨some 29, .mov (.t 0), none, [], []⟩,
  ⟨some 30, .mov (.t 1), none, [], []⟩,
  ⟨some 31, .call 24 [(.t 29), (.t 30)], none, [0, 1], []⟩])
(.cond (.t 31)
  (.seq (.reg [⟨some 32, .call 25 [], none, [], []⟩,
    ⟨some 6, .mov (.t 32), none, [0, 0, 0], []⟩])
  (.ret))
  (.skip)))
(.seq (.reg [⟨some 34, .mov (.t 0), none, [], []⟩,
  ⟨some 35, .mov (.t 1), none, [], []⟩,
  ⟨some 36, .bsl 1 [(.t 34), (.t 35)], none, [0, 1], []⟩,
  ⟨some 37, .call 31 [(.t 36)], none, [2], []⟩,
  ⟨some 33, .mov (.t 37), none, [3], []⟩,
  ⟨some 38, .ext (.t 33) 0, none, [4], []⟩,
  ⟨some 39, .ext (.t 33) 1, none, [4], []⟩,
  ⟨some 7, .mov (.t 38), none, [5, 3, 0, 1, 2, 3, 4, 5], []⟩,
  ⟨some 8, .mov (.t 39), none, [6, 7, 0, 1, 2, 3, 4, 5, 6, 7], []⟩])
(.seq (.reg [⟨some 41, .mov (.t 0), none, [], []⟩,
  ⟨some 42, .mov (.t 1), none, [], []⟩,
  ⟨some 43, .bsl 1 [(.t 41), (.t 42)], none, [0, 1], []⟩,
  ⟨some 44, .call 32 [(.t 43)], none, [2], []⟩,
  ⟨some 40, .mov (.t 44), none, [3], []⟩,
  ⟨some 45, .ext (.t 40) 0, none, [4], []⟩,
  ⟨some 46, .ext (.t 40) 1, none, [4], []⟩,
  ⟨some 9, .mov (.t 45), none, [5, 3, 0, 1, 2, 3, 4, 5], []⟩,
  ⟨some 10, .mov (.t 46), none, [6, 7, 0, 1, 2, 3, 4, 5, 6, 7], []⟩])
(.seq (.reg [⟨some 48, .mov (.t 0), none, [], []⟩,
  ⟨some 49, .mov (.t 1), none, [], []⟩,
  ⟨some 50, .call 33 [(.t 48), (.t 49)], none, [0, 1], []⟩,
  ⟨some 47, .mov (.t 50), none, [2], []⟩,
  ⟨some 51, .ext (.t 47) 0, none, [3], []⟩,
  ⟨some 52, .ext (.t 47) 1, none, [3], []⟩,
  ⟨some 11, .mov (.t 51), none, [4, 2, 0, 1, 2, 3, 4], []⟩,
  ⟨some 12, .mov (.t 52), none, [5, 6, 0, 1, 2, 3, 4, 5, 6], []⟩])
(.seq (.reg [⟨some 54, .mov (.t 0), none, [], []⟩,
  ⟨some 55, .mov (.t 1), none, [], []⟩,
  ⟨some 56, .call 34 [(.c (.int .i64 1)), (.t 54), (.t 55)], none, [0, 1], []⟩,
  ⟨some 53, .mov (.t 56), none, [2], []⟩,
  ⟨some 57, .ext (.t 53) 0, none, [3], []⟩,
  ⟨some 58, .ext (.t 53) 1, none, [3], []⟩,
  ⟨some 13, .mov (.t 57), none, [4, 2, 0, 1, 2, 3, 4], []⟩,
  ⟨some 14, .mov (.t 58), none, [5, 6, 0, 1, 2, 3, 4, 5, 6], []⟩])
(.seq (.reg [⟨some 60, .mov (.t 0), none, [], []⟩,
  ⟨some 61, .mov (.t 1), none, [], []⟩,
  ⟨some 62, .call 35 [(.t 60), (.t 61)], none, [0, 1], []⟩,
  ⟨some 59, .mov (.t 62), none, [2], []⟩,
  ⟨some 63, .ext (.t 59) 0, none, [3], []⟩,
  ⟨some 64, .ext (.t 59) 1, none, [3], []⟩,
  ⟨some 15, .mov (.t 63), none, [4, 2, 0, 1, 2, 3, 4], []⟩,
  ⟨some 16, .mov (.t 64), none, [5, 6, 0, 1, 2, 3, 4, 5, 6], []⟩])
(.seq (.reg [⟨some 66, .mov (.t 0), none, [], []⟩,
  ⟨some 67, .mov (.t 1), none, [], []⟩,
  ⟨some 68, .call 34 [(.c (.int .i64 2)), (.t 66), (.t 67)], none, [0, 1], []⟩,
  ⟨some 65, .mov (.t 68), none, [2], []⟩,
  ⟨some 69, .ext (.t 65) 0, none, [3], []⟩,
  ⟨some 70, .ext (.t 65) 1, none, [3], []⟩,
  ⟨some 17, .mov (.t 69), none, [4, 2, 0, 1, 2, 3, 4], []⟩,
  ⟨some 18, .mov (.t 70), none, [5, 6, 0, 1, 2, 3, 4, 5, 6], []⟩])
(.seq (.reg [⟨some 72, .mov (.t 0), none, [], []⟩,
  ⟨some 73, .mov (.t 1), none, [], []⟩,
  ⟨some 74, .call 36 [(.t 72), (.t 73)], none, [0, 1], []⟩,
  ⟨some 71, .mov (.t 74), none, [2], []⟩,
  ⟨some 75, .ext (.t 71) 0, none, [3], []⟩,
  ⟨some 76, .ext (.t 71) 1, none, [3], []⟩,
  ⟨some 19, .mov (.t 75), none, [4, 2, 0, 1, 2, 3, 4], []⟩,
  ⟨some 20, .mov (.t 76), none, [5, 6, 0, 1, 2, 3, 4, 5, 6], []⟩])
(.seq (.reg [⟨some 78, .mov (.t 0), none, [], []⟩,
  ⟨some 79, .mov (.t 1), none, [], []⟩,
  ⟨some 80, .call 34 [(.c (.int .i64 3)), (.t 78), (.t 79)], none, [0, 1], []⟩,
  ⟨some 77, .mov (.t 80), none, [2], []⟩,
  ⟨some 81, .ext (.t 77) 0, none, [3], []⟩,
  ⟨some 82, .ext (.t 77) 1, none, [3], []⟩,
  ⟨some 21, .mov (.t 81), none, [4, 2, 0, 1, 2, 3, 4], []⟩,
  ⟨some 22, .mov (.t 82), none, [5, 6, 0, 1, 2, 3, 4, 5, 6], []⟩])
(.seq (.reg [⟨some 84, .mov (.t 0), none, [], []⟩,
  ⟨some 85, .mov (.t 1), none, [], []⟩,
  ⟨some 86, .mov (.t 2), none, [], []⟩,
  ⟨some 87, .call 37 [(.t 84), (.t 85), (.t 86)], none, [0, 1, 2], []⟩,
  ⟨some 83, .mov (.t 87), none, [3], []⟩,
  ⟨some 88, .ext (.t 83) 0, none, [4], []⟩,
  ⟨some 89, .ext (.t 83) 1, none, [4], []⟩,
  ⟨some 90, .ext (.t 83) 2, none, [4], []⟩,
  ⟨some 23, .mov (.t 88), none, [5, 3, 0, 1, 2, 3, 4, 5], []⟩,
  ⟨some 24, .mov (.t 89), none, [6, 8, 0, 1, 2, 3, 4, 5, 6, 8], []⟩,
  ⟨some 25, .mov (.t 90), none, [7, 9, 0, 1, 2, 3, 4, 5, 6, 7, 8, 9], []⟩])
(.seq (.reg [⟨some 92, .mov (.t 0), none, [], []⟩,
  ⟨some 93, .mov (.t 1), none, [], []⟩,
  ⟨some 94, .mov (.t 2), none, [], []⟩,
  ⟨some 95, .call 38 [(.t 92), (.t 93), (.t 94)], none, [0, 1, 2], []⟩,
  ⟨some 91, .mov (.t 95), none, [3], []⟩,
  ⟨some 96, .ext (.t 91) 0, none, [4], []⟩,
  ⟨some 97, .ext (.t 91) 1, none, [4], []⟩,
  ⟨some 98, .ext (.t 91) 2, none, [4], []⟩,
  ⟨some 26, .mov (.t 96), none, [5, 3, 0, 1, 2, 3, 4, 5], []⟩,
  ⟨some 27, .mov (.t 97), none, [6, 8, 0, 1, 2, 3, 4, 5, 6, 8], []⟩,
  ⟨some 28, .mov (.t 98), none, [7, 9, 0, 1, 2, 3, 4, 5, 6, 7, 8, 9], []⟩])
(.seq (.reg [⟨some 99, .mov (.t 7), none, [], []⟩,
  ⟨some 100, .mov (.t 9), none, [], []⟩,
  ⟨some 101, .call 21 [(.t 99), (.t 100)], none, [0, 1], []⟩,
  ⟨some 102, .mov (.t 101), none, [2, 2], []⟩,
  ⟨some 103, .mov (.t 8), some (102, true), [3], []⟩,
  ⟨some 104, .mov (.t 10), some (102, true), [3], []⟩,
  ⟨some 105, .bin .eql (.t 103) (.t 104), some (102, true), [4, 5, 3], []⟩,
  ⟨some 106, .pick (.t 102) (.t 105) (.c (.bool false)), none, [3, 6], []⟩,
  ⟨some 107, .mov (.t 106), none, [7, 3], []⟩,
  ⟨some 108, .mov (.t 11), some (107, true), [8], []⟩,
  ⟨some 109, .mov (.t 13), some (107, true), [8], []⟩,
  ⟨some 110, .call 21 [(.t 108), (.t 109)], some (107, true), [9, 10, 8, 8], []⟩,
  ⟨some 111, .pick (.t 107) (.t 110) (.c (.bool false)), none, [8, 11], []⟩,
  ⟨some 112, .mov (.t 111), none, [12, 11], []⟩,
  ⟨some 113, .mov (.t 12), some (112, true), [13], []⟩,
  ⟨some 114, .mov (.t 14), some (112, true), [13], []⟩,
  ⟨some 115, .bin .eql (.t 113) (.t 114), some (112, true), [14, 15, 13], []⟩,
  ⟨some 116, .pick (.t 112) (.t 115) (.c (.bool false)), none, [13, 16], []⟩,
  ⟨some 117, .mov (.t 116), none, [17, 13], []⟩,
  ⟨some 118, .mov (.t 15), some (117, true), [18], []⟩,
  ⟨some 119, .mov (.t 17), some (117, true), [18], []⟩,
  ⟨some 120, .call 21 [(.t 118), (.t 119)], some (117, true), [19, 20, 18, 18], []⟩,
  ⟨some 121, .pick (.t 117) (.t 120) (.c (.bool false)), none, [18, 21], []⟩,
  ⟨some 122, .mov (.t 121), none, [22, 21], []⟩,
  ⟨some 123, .mov (.t 16), some (122, true), [23], []⟩,
  ⟨some 124, .mov (.t 18), some (122, true), [23], []⟩,
  ⟨some 125, .bin .eql (.t 123) (.t 124), some (122, true), [24, 25, 23], []⟩,
  ⟨some 126, .pick (.t 122) (.t 125) (.c (.bool false)), none, [23, 26], []⟩,
  ⟨some 127, .mov (.t 126), none, [27, 23], []⟩,
  ⟨some 128, .mov (.t 19), some (127, true), [28], []⟩,
  ⟨some 129, .mov (.t 21), some (127, true), [28], []⟩,
  ⟨some 130, .call 21 [(.t 128), (.t 129)], some (127, true), [29, 30, 28, 28], []⟩,
  ⟨some 131, .pick (.t 127) (.t 130) (.c (.bool false)), none, [28, 31], []⟩,
  ⟨some 132, .mov (.t 131), none, [32, 31], []⟩,
  ⟨some 133, .mov (.t 20), some (132, true), [33], []⟩,
  ⟨some 134, .mov (.t 22), some (132, true), [33], []⟩,
  ⟨some 135, .bin .eql (.t 133) (.t 134), some (132, true), [34, 35, 33], []⟩,
  ⟨some 136, .pick (.t 132) (.t 135) (.c (.bool false)), none, [33, 36], []⟩,
  ⟨some 137, .mov (.t 136), none, [37, 33], []⟩,
  ⟨some 138, .mov (.t 23), some (137, true), [38], []⟩,
  ⟨some 139, .mov (.t 26), some (137, true), [38], []⟩,
  ⟨some 140, .bin .eql (.t 138) (.t 139), some (137, true), [39, 40, 38], []⟩,
  ⟨some 141, .pick (.t 137) (.t 140) (.c (.bool false)), none, [38, 41], []⟩,
  ⟨some 142, .mov (.t 141), none, [42, 38], []⟩,
  ⟨some 143, .mov (.t 24), some (142, true), [43], []⟩,
  ⟨some 144, .mov (.t 27), some (142, true), [43], []⟩,
  ⟨some 145, .eqs1 false (.t 143) (.t 144), some (142, true), [44, 45, 43], []⟩,
  ⟨some 146, .pick (.t 142) (.t 145) (.c (.bool false)), none, [43, 46], []⟩,
  ⟨some 147, .mov (.t 146), none, [47, 43], []⟩,
  ⟨some 148, .mov (.t 25), some (147, true), [48], []⟩,
  ⟨some 149, .mov (.t 28), some (147, true), [48], []⟩,
  ⟨some 150, .bin .eql (.t 148) (.t 149), some (147, true), [49, 50, 48], []⟩,
  ⟨some 151, .pick (.t 147) (.t 150) (.c (.bool false)), none, [48, 51], []⟩,
  ⟨some 152, .mov (.t 151), none, [52, 48], []⟩,
  ⟨some 153, .call 25 [], some (152, true), [53, 53], []⟩,
  ⟨some 154, .pick (.t 152) (.t 153) (.c (.bool false)), none, [53, 54], []⟩,
  ⟨some 6, .mov (.t 154), none, [55, 54, 0, 1, 2, 3, 4, 5, 6, 7, 8, 9, 10, 11, 12, 13, 14, 15, 16, 17, 18, 19, 20, 21, 22, 23, 24, 25, 26, 27, 28, 29, 30, 31, 32, 33, 34, 35, 36, 37, 38, 39, 40, 41, 42, 43, 44, 45, 46, 47, 48, 49, 50, 51, 52, 53, 54, 55], []⟩])
(.ret))))))))))))),
[.t 6], 155⟩
theorem v_liverylaw03_CalcTells_ok : compF Try.prog 8 = some v_liverylaw03_CalcTells := by kernel_rfl
def v_liverylaw03_great : VFn := ⟨.seq (.reg [⟨some 4, .mov (.c (.bool false)), none, [], []⟩])
(.seq (.reg [⟨some 5, .mov (.t 0), none, [], []⟩,
  ⟨some 6, .len (.t 5), none, [0], []⟩,
  ⟨some 7, .bin .gtr (.t 6) (.c (.int .i64 60)), none, [1], []⟩,
  ⟨some 8, .mov (.t 7), none, [2], []⟩,
  ⟨some 9, .mov (.t 1), some (8, false), [3], []⟩,
  ⟨some 10, .len (.t 9), some (8, false), [4, 3], []⟩,
  ⟨some 11, .bin .gtr (.t 10) (.c (.int .i64 60)), some (8, false), [5, 3], []⟩,
  ⟨some 12, .pick (.t 8) (.c (.bool true)) (.t 11), none, [3, 6], []⟩,
  ⟨some 4, .mov (.t 12), none, [7, 3, 0, 1, 2, 3, 4, 5, 6, 7], []⟩])
(.ret)),
[.t 4], 13⟩
theorem v_liverylaw03_great_ok : compF Try.prog 24 = some v_liverylaw03_great := by kernel_rfl
def v_liverylaw03_head : VFn := ⟨.seq (.reg [⟨some 0, .mov (.c (.bool false)), none, [], []⟩])
(.seq (.reg [⟨some 21, .call 62 [(.c (.int .i64 2)), (.c (.int .i64 3)), (.c (.int .i64 1))], none, [], []⟩,
  ⟨some 22, .call 62 [(.c (.int .i64 8)), (.c (.int .i64 0)), (.c (.int .i64 0))], none, [0], []⟩,
  ⟨some 23, .bsl 3 [(.t 21), (.t 22)], none, [0, 1], []⟩,
  ⟨some 24, .call 62 [(.c (.int .i64 5)), (.c (.int .i64 1)), (.c (.int .i64 1))], none, [1], []⟩,
  ⟨some 25, .call 62 [(.c (.int .i64 9)), (.c (.int .i64 0)), (.c (.int .i64 0))], none, [3], []⟩,
  ⟨some 26, .bsl 3 [(.t 24), (.t 25)], none, [3, 4], []⟩,
  ⟨some 1, .mov (.t 23), none, [2, 4, 0, 1, 2], []⟩,
  ⟨some 2, .mov (.t 26), none, [5, 6, 0, 1, 2, 3, 4, 5, 6], []⟩])
(.seq (.reg [⟨some 28, .mov (.t 1), none, [], []⟩,
  ⟨some 29, .mov (.t 2), none, [], []⟩,
  ⟨some 30, .bsl 1 [(.t 28), (.t 29)], none, [0, 1], []⟩,
  ⟨some 31, .call 31 [(.t 30)], none, [2], []⟩,
  ⟨some 27, .mov (.t 31), none, [3], []⟩,
  ⟨some 32, .ext (.t 27) 0, none, [4], []⟩,
  ⟨some 33, .ext (.t 27) 1, none, [4], []⟩,
  ⟨some 3, .mov (.t 32), none, [5, 3, 0, 1, 2, 3, 4, 5], []⟩,
  ⟨some 4, .mov (.t 33), none, [6, 7, 0, 1, 2, 3, 4, 5, 6, 7], []⟩])
(.seq (.reg [⟨some 35, .mov (.t 1), none, [], []⟩,
  ⟨some 36, .mov (.t 1), none, [], []⟩,
  ⟨some 37, .call 33 [(.t 35), (.t 36)], none, [0, 1], []⟩,
  ⟨some 34, .mov (.t 37), none, [2], []⟩,
  ⟨some 38, .ext (.t 34) 0, none, [3], []⟩,
  ⟨some 39, .ext (.t 34) 1, none, [3], []⟩,
  ⟨some 5, .mov (.t 38), none, [4, 2, 0, 1, 2, 3, 4], []⟩,
  ⟨some 6, .mov (.t 39), none, [5, 6, 0, 1, 2, 3, 4, 5, 6], []⟩])
(.seq (.reg [⟨some 41, .mov (.t 1), none, [], []⟩,
  ⟨some 42, .mov (.t 2), none, [], []⟩,
  ⟨some 43, .call 35 [(.t 41), (.t 42)], none, [0, 1], []⟩,
  ⟨some 40, .mov (.t 43), none, [2], []⟩,
  ⟨some 44, .ext (.t 40) 0, none, [3], []⟩,
  ⟨some 45, .ext (.t 40) 1, none, [3], []⟩,
  ⟨some 7, .mov (.t 44), none, [4, 2, 0, 1, 2, 3, 4], []⟩,
  ⟨some 8, .mov (.t 45), none, [5, 6, 0, 1, 2, 3, 4, 5, 6], []⟩])
(.seq (.reg [⟨some 47, .mov (.t 1), none, [], []⟩,
  ⟨some 48, .build [(.int .i64 0), (.int .i64 0)] [(0, 1, (.c (.int .i64 (-3)))), (1, 1, (.c (.int .i64 (-1))))], none, [], []⟩,
  ⟨some 49, .call 26 [(.t 47), (.c (.int .i64 4)), (.c (.int .i64 8)), (.t 48)], none, [0, 1], []⟩,
  ⟨some 46, .mov (.t 49), none, [2], []⟩,
  ⟨some 50, .ext (.t 46) 0, none, [3], []⟩,
  ⟨some 51, .ext (.t 46) 1, none, [3], []⟩,
  ⟨some 9, .mov (.t 50), none, [4, 2, 0, 1, 2, 3, 4], []⟩,
  ⟨some 10, .mov (.t 51), none, [5, 6, 0, 1, 2, 3, 4, 5, 6], []⟩])
(.seq (.reg [⟨some 53, .mov (.t 2), none, [], []⟩,
  ⟨some 54, .mov (.t 1), none, [], []⟩,
  ⟨some 55, .call 37 [(.t 53), (.t 54), (.c (.int .i64 0))], none, [0, 1], []⟩,
  ⟨some 52, .mov (.t 55), none, [2], []⟩,
  ⟨some 56, .ext (.t 52) 0, none, [3], []⟩,
  ⟨some 57, .ext (.t 52) 1, none, [3], []⟩,
  ⟨some 58, .ext (.t 52) 2, none, [3], []⟩,
  ⟨some 11, .mov (.t 56), none, [4, 2, 0, 1, 2, 3, 4], []⟩,
  ⟨some 12, .mov (.t 57), none, [5, 7, 0, 1, 2, 3, 4, 5, 7], []⟩,
  ⟨some 13, .mov (.t 58), none, [6, 8, 0, 1, 2, 3, 4, 5, 6, 7, 8], []⟩])
(.seq (.reg [⟨some 60, .mov (.t 2), none, [], []⟩,
  ⟨some 61, .mov (.t 1), none, [], []⟩,
  ⟨some 62, .call 37 [(.t 60), (.t 61), (.c (.int .i64 9))], none, [0, 1], []⟩,
  ⟨some 59, .mov (.t 62), none, [2], []⟩,
  ⟨some 63, .ext (.t 59) 0, none, [3], []⟩,
  ⟨some 64, .ext (.t 59) 1, none, [3], []⟩,
  ⟨some 65, .ext (.t 59) 2, none, [3], []⟩,
  ⟨some 14, .mov (.t 63), none, [4, 2, 0, 1, 2, 3, 4], []⟩,
  ⟨some 15, .mov (.t 64), none, [5, 7, 0, 1, 2, 3, 4, 5, 7], []⟩,
  ⟨some 16, .mov (.t 65), none, [6, 8, 0, 1, 2, 3, 4, 5, 6, 7, 8], []⟩])
(.seq (.reg [⟨some 67, .mov (.t 1), none, [], []⟩,
  ⟨some 68, .build [(.int .i64 0), (.int .i64 0)] [], none, [], []⟩,
  ⟨some 69, .call 26 [(.t 67), (.c (.int .i64 4)), (.c (.int .i64 3)), (.t 68)], none, [0, 1], []⟩,
  ⟨some 66, .mov (.t 69), none, [2], []⟩,
  ⟨some 70, .ext (.t 66) 0, none, [3], []⟩,
  ⟨some 71, .ext (.t 66) 1, none, [3], []⟩,
  ⟨some 17, .mov (.t 70), none, [4, 2, 0, 1, 2, 3, 4], []⟩,
  ⟨some 18, .mov (.t 71), none, [5, 6, 0, 1, 2, 3, 4, 5, 6], []⟩])
(.seq (.reg [⟨some 73, .mov (.t 2), none, [], []⟩,
  ⟨some 74, .call 62 [(.c (.int .i64 2)), (.c (.int .i64 0)), (.c (.int .i64 0))], none, [], []⟩,
  ⟨some 75, .bsl 3 [(.t 74)], none, [1], []⟩,
  ⟨some 76, .bsl 1 [(.t 73), (.t 75)], none, [0, 2], []⟩,
  ⟨some 77, .call 31 [(.t 76)], none, [3, 1], []⟩,
  ⟨some 72, .mov (.t 77), none, [4], []⟩,
  ⟨some 78, .ext (.t 72) 0, none, [5], []⟩,
  ⟨some 79, .ext (.t 72) 1, none, [5], []⟩,
  ⟨some 19, .mov (.t 78), none, [6, 4, 0, 1, 2, 3, 4, 5, 6], []⟩,
  ⟨some 20, .mov (.t 79), none, [7, 8, 0, 1, 2, 3, 4, 5, 6, 7, 8], []⟩])
(.seq (.reg [⟨some 80, .mov (.t 3), none, [], []⟩,
  ⟨some 81, .call 62 [(.c (.int .i64 2)), (.c (.int .i64 3)), (.c (.int .i64 1))], none, [], []⟩,
  ⟨some 82, .call 62 [(.c (.int .i64 5)), (.c (.int .i64 4)), (.c (.int .i64 2))], none, [1], []⟩,
  ⟨some 83, .call 62 [(.c (.int .i64 8)), (.c (.int .i64 1)), (.c (.int .i64 1))], none, [2], []⟩,
  ⟨some 84, .call 62 [(.c (.int .i64 9)), (.c (.int .i64 0)), (.c (.int .i64 0))], none, [3], []⟩,
  ⟨some 85, .bsl 3 [(.t 81), (.t 82), (.t 83), (.t 84)], none, [1, 2, 3, 4], []⟩,
  ⟨some 86, .call 21 [(.t 80), (.t 85)], none, [0, 5, 4], []⟩,
  ⟨some 87, .mov (.t 86), none, [6, 6], []⟩,
  ⟨some 88, .mov (.t 4), some (87, true), [7], []⟩,
  ⟨some 89, .bin .eql (.t 88) (.c (.int .i64 0)), some (87, true), [8, 7], []⟩,
  ⟨some 90, .pick (.t 87) (.t 89) (.c (.bool false)), none, [7, 9], []⟩,
  ⟨some 91, .mov (.t 90), none, [10, 7], []⟩,
  ⟨some 92, .mov (.t 5), some (91, true), [11], []⟩,
  ⟨some 93, .len (.t 92), some (91, true), [12, 11], []⟩,
  ⟨some 94, .bin .eql (.t 93) (.c (.int .i64 0)), some (91, true), [13, 11], []⟩,
  ⟨some 95, .pick (.t 91) (.t 94) (.c (.bool false)), none, [11, 14], []⟩,
  ⟨some 96, .mov (.t 95), none, [15, 11], []⟩,
  ⟨some 97, .mov (.t 6), some (96, true), [16], []⟩,
  ⟨some 98, .bin .eql (.t 97) (.c (.int .i64 0)), some (96, true), [17, 16], []⟩,
  ⟨some 99, .pick (.t 96) (.t 98) (.c (.bool false)), none, [16, 18], []⟩,
  ⟨some 100, .mov (.t 99), none, [19, 16], []⟩,
  ⟨some 101, .mov (.t 7), some (100, true), [20], []⟩,
  ⟨some 102, .call 62 [(.c (.int .i64 5)), (.c (.int .i64 1)), (.c (.int .i64 1))], some (100, true), [20, 20], []⟩,
  ⟨some 103, .call 62 [(.c (.int .i64 8)), (.c (.int .i64 0)), (.c (.int .i64 0))], some (100, true), [22, 20], []⟩,
  ⟨some 104, .bsl 3 [(.t 102), (.t 103)], some (100, true), [22, 23, 20], []⟩,
  ⟨some 105, .call 21 [(.t 101), (.t 104)], some (100, true), [21, 24, 23, 20], []⟩,
  ⟨some 106, .pick (.t 100) (.t 105) (.c (.bool false)), none, [20, 25], []⟩,
  ⟨some 107, .mov (.t 106), none, [26, 25], []⟩,
  ⟨some 108, .mov (.t 8), some (107, true), [27], []⟩,
  ⟨some 109, .bin .eql (.t 108) (.c (.int .i64 0)), some (107, true), [28, 27], []⟩,
  ⟨some 110, .pick (.t 107) (.t 109) (.c (.bool false)), none, [27, 29], []⟩,
  ⟨some 111, .mov (.t 110), none, [30, 27], []⟩,
  ⟨some 112, .mov (.t 9), some (111, true), [31], []⟩,
  ⟨some 113, .call 62 [(.c (.int .i64 2)), (.c (.int .i64 3)), (.c (.int .i64 1))], some (111, true), [31, 31], []⟩,
  ⟨some 114, .call 62 [(.c (.int .i64 4)), (.c (.int .i64 0)), (.c (.int .i64 0))], some (111, true), [33, 31], []⟩,
  ⟨some 115, .bsl 3 [(.t 113), (.t 114)], some (111, true), [33, 34, 31], []⟩,
  ⟨some 116, .call 21 [(.t 112), (.t 115)], some (111, true), [32, 35, 34, 31], []⟩,
  ⟨some 117, .pick (.t 111) (.t 116) (.c (.bool false)), none, [31, 36], []⟩,
  ⟨some 118, .mov (.t 117), none, [37, 36], []⟩,
  ⟨some 119, .mov (.t 10), some (118, true), [38], []⟩,
  ⟨some 120, .bin .eql (.t 119) (.c (.int .i64 0)), some (118, true), [39, 38], []⟩,
  ⟨some 121, .pick (.t 118) (.t 120) (.c (.bool false)), none, [38, 40], []⟩,
  ⟨some 122, .mov (.t 121), none, [41, 38], []⟩,
  ⟨some 123, .mov (.t 11), some (122, true), [42], []⟩,
  ⟨some 124, .bin .eql (.t 123) (.c (.int .i64 8)), some (122, true), [43, 42], []⟩,
  ⟨some 125, .pick (.t 122) (.t 124) (.c (.bool false)), none, [42, 44], []⟩,
  ⟨some 126, .mov (.t 125), none, [45, 42], []⟩,
  ⟨some 127, .mov (.t 12), some (126, true), [46], []⟩,
  ⟨some 128, .un .not (.t 127), some (126, true), [47, 46], []⟩,
  ⟨some 129, .pick (.t 126) (.t 128) (.c (.bool false)), none, [46, 48], []⟩,
  ⟨some 130, .mov (.t 129), none, [49, 46], []⟩,
  ⟨some 131, .mov (.t 13), some (130, true), [50], []⟩,
  ⟨some 132, .bin .eql (.t 131) (.c (.int .i64 0)), some (130, true), [51, 50], []⟩,
  ⟨some 133, .pick (.t 130) (.t 132) (.c (.bool false)), none, [50, 52], []⟩,
  ⟨some 134, .mov (.t 133), none, [53, 50], []⟩,
  ⟨some 135, .mov (.t 14), some (134, true), [54], []⟩,
  ⟨some 136, .bin .eql (.t 135) (.c (.int .i64 0)), some (134, true), [55, 54], []⟩,
  ⟨some 137, .pick (.t 134) (.t 136) (.c (.bool false)), none, [54, 56], []⟩,
  ⟨some 138, .mov (.t 137), none, [57, 54], []⟩,
  ⟨some 139, .mov (.t 15), some (138, true), [58], []⟩,
  ⟨some 140, .pick (.t 138) (.t 139) (.c (.bool false)), none, [58, 59], []⟩,
  ⟨some 141, .mov (.t 140), none, [60, 58], []⟩,
  ⟨some 142, .mov (.t 16), some (141, true), [61], []⟩,
  ⟨some 143, .bin .eql (.t 142) (.c (.int .i64 0)), some (141, true), [62, 61], []⟩,
  ⟨some 144, .pick (.t 141) (.t 143) (.c (.bool false)), none, [61, 63], []⟩,
  ⟨some 145, .mov (.t 144), none, [64, 61], []⟩,
  ⟨some 146, .mov (.t 18), some (145, true), [65], []⟩,
  ⟨some 147, .bin .eql (.t 146) (.c (.int .i64 2)), some (145, true), [66, 65], []⟩,
  ⟨some 148, .pick (.t 145) (.t 147) (.c (.bool false)), none, [65, 67], []⟩,
  ⟨some 149, .mov (.t 148), none, [68, 65], []⟩,
  ⟨some 150, .mov (.t 20), some (149, true), [69], []⟩,
  ⟨some 151, .bin .eql (.t 150) (.c (.int .i64 5)), some (149, true), [70, 69], []⟩,
  ⟨some 152, .pick (.t 149) (.t 151) (.c (.bool false)), none, [69, 71], []⟩,
  ⟨some 0, .mov (.t 152), none, [72, 69, 0, 1, 2, 3, 4, 5, 6, 7, 8, 9, 10, 11, 12, 13, 14, 15, 16, 17, 18, 19, 20, 21, 22, 23, 24, 25, 26, 27, 28, 29, 30, 31, 32, 33, 34, 35, 36, 37, 38, 39, 40, 41, 42, 43, 44, 45, 46, 47, 48, 49, 50, 51, 52, 53, 54, 55, 56, 57, 58, 59, 60, 61, 62, 63, 64, 65, 66, 67, 68, 69, 70, 71, 72], []⟩])
(.ret))))))))))),
[.t 0], 153⟩
theorem v_liverylaw03_head_ok : compF Try.prog 25 = some v_liverylaw03_head := by kernel_rfl
def v_liverylaw03_seg : VFn := ⟨.seq (.reg [⟨some 6, .alloc [(.int .i64 0), (.int .i64 0), (.int .i64 0)], none, [], []⟩])
(.seq (.reg [⟨some 7, .mov (.t 0), none, [], []⟩,
  ⟨some 8, .mov (.t 1), none, [], []⟩,
  ⟨some 9, .mov (.t 2), none, [], []⟩,
  ⟨some 10, .build [(.int .i64 0), (.int .i64 0)] [(0, 1, (.t 8)), (1, 1, (.t 9))], none, [1, 2], []⟩,
  ⟨some 11, .build [(.int .i64 0), (.int .i64 0), (.int .i64 0)] [(0, 1, (.t 7)), (1, 2, (.t 10))], none, [0, 3], []⟩,
  ⟨none, .store 3 (.t 6) (.t 11), none, [4, 0, 1, 2, 3, 4], []⟩])
(.ret)),
[.c 6 3 true], 12⟩
theorem v_liverylaw03_seg_ok : compF Try.prog 62 = some v_liverylaw03_seg := by kernel_rfl
end Go.Proofs.Ytddbnncimggogaa.V
end
section
set_option linter.unusedSimpArgs false
set_option linter.unusedVariables false
/- liverylaw03.seg, great, head. -/
namespace Go.Proofs.Ytddbnncimggogaa.V
open Go Go.Proofs
set_option maxRecDepth 100000
set_option maxHeartbeats 4000000
theorem seg_3 (t m c : Int) : VPure Try.prog 62 [.int .i64 t, .int .i64 m, .int .i64 c] (.agg [.int .i64 t, .int .i64 m, .int .i64 c]) := by
  refine VPure.of v_liverylaw03_seg_ok (Nat.le_of_ble_eq_true rfl) (fun Z st => ?_)
  simp only [v_liverylaw03_seg, ↓vD, vU, VE.ev, VE.evs, retvs, tupOf, grab, vfill, vbsl, eqCells, eqCell, veqs, veqs1, vmnx, AV.isCell, AV.isUndef, Nat.reduceEqDiff, Nat.reduceAdd, Nat.reduceSub, Nat.reduceLeDiff, Nat.reduceLT, reduceIte, reduceCtorEq, Nat.reduceBEq, k_app, k_slc1]
  (repeat' (first | (simp (config := { maxDischargeDepth := 16 }) only [*, vX, Int.reduceLE, Int.reduceLT, Int.reduceGE, Int.reduceGT, Int.reduceBEq, Int.reduceBNe, Int.reduceAdd, Int.reduceSub, Int.reduceMul, Int.reduceNeg, ↓vD, vU, VE.ev, VE.evs, retvs, tupOf, grab, vfill, vbsl, eqCells, eqCell, veqs, veqs1, vmnx, AV.isCell, AV.isUndef, Nat.reduceEqDiff, Nat.reduceAdd, Nat.reduceSub, Nat.reduceLeDiff, Nat.reduceLT, reduceIte, reduceCtorEq, Nat.reduceBEq]) | (simp (disch := first | assumption | omega | exact Seg.len _ | exact Vec.len _ | exact Leg.len _ | exact num_len _ | exact rowA_len _ | exact rowA_len | exact rowT_len _ | exact rowT_len | exact Seg.len | exact Vec.len | exact Leg.len | exact num_len | exact AV.slen _ _ | rfl) only [vP]) | (with_reducible (first | refine gsnd (fun _ => ?_) (fun _ => ?_) | refine csnd (fun _ => ?_) (fun _ => ?_) | refine gsd (fun _ => ?_) (fun _ => ?_) | refine csd (fun _ => ?_) (fun _ => ?_) | refine gsn (fun _ => ?_) (fun _ => ?_) | refine csn (fun _ => ?_) (fun _ => ?_))) | (with_reducible refine gs (fun _ => ?_) (fun _ => ?_)) | (with_reducible refine cs_ (fun _ => ?_) (fun _ => ?_)) | (with_reducible refine objQ_i (fun _ _ => ?_); (repeat (with_reducible refine imp_i (fun _ => ?_)))) | ((try with_reducible refine appK_a ?_); first | (with_reducible refine appD_F (by refine ⟨?_, ?_, ?_, ?_⟩ <;> (first | assumption | omega | exact St.has_add (by assumption) | (simp only [ins_has]; exact St.has_add (by assumption)) | (simp only [ins_has, fresh_ins, kill_ins, add_ins] at *; exact St.has_add (by assumption)) | (simp only [*, ins_has, has_full, St.has_add]; done) | (simp [-List.map_take, -List.map_drop, or_imp, forall_and, Seg.a, Vec.a, Leg.a, num, okEl, cells_agg, cells_int, cells_sl, cells_bool, AV.isCell]; done) | (simp; omega))) (fun _ _ => ?_)) | (with_reducible refine appD_V (by refine ⟨?_, ?_, ?_, ?_, ?_⟩ <;> (first | assumption | omega | exact St.has_add (by assumption) | (simp only [ins_has]; exact St.has_add (by assumption)) | (simp only [ins_has, fresh_ins, kill_ins, add_ins] at *; exact St.has_add (by assumption)) | (simp only [*, ins_has, has_full, St.has_add]; done) | (simp [-List.map_take, -List.map_drop, or_imp, forall_and, Seg.a, Vec.a, Leg.a, num, okEl, cells_agg, cells_int, cells_sl, cells_bool, AV.isCell]; done) | (simp; omega))) (fun _ _ => ?_))) | (with_reducible refine freshQ_i (fun _ _ => ?_)) | (with_reducible refine nilQ_i (fun _ _ => ?_))))
theorem great_3 (f g : List Seg) (hf : (f.length : Int) ≤ 9223372036854775807) (hg : (g.length : Int) ≤ 9223372036854775807) (t t' : Tok) : VPure Try.prog 24 [.sl (f.map Seg.a) t, .sl (g.map Seg.a) t'] (.bool (decide (60 < f.length) || decide (60 < g.length))) := by
  refine VPure.of v_liverylaw03_great_ok (Nat.le_of_ble_eq_true rfl) (fun Z st => ?_)
  simp only [v_liverylaw03_great, ↓vD, vU, VE.ev, VE.evs, retvs, tupOf, grab, vfill, vbsl, eqCells, eqCell, veqs, veqs1, vmnx, AV.isCell, AV.isUndef, Nat.reduceEqDiff, Nat.reduceAdd, Nat.reduceSub, Nat.reduceLeDiff, Nat.reduceLT, reduceIte, reduceCtorEq, Nat.reduceBEq, k_app, k_slc1]
  (repeat' (first | (simp (config := { maxDischargeDepth := 16 }) only [*, vX, Int.reduceLE, Int.reduceLT, Int.reduceGE, Int.reduceGT, Int.reduceBEq, Int.reduceBNe, Int.reduceAdd, Int.reduceSub, Int.reduceMul, Int.reduceNeg, ↓vD, vU, VE.ev, VE.evs, retvs, tupOf, grab, vfill, vbsl, eqCells, eqCell, veqs, veqs1, vmnx, AV.isCell, AV.isUndef, Nat.reduceEqDiff, Nat.reduceAdd, Nat.reduceSub, Nat.reduceLeDiff, Nat.reduceLT, reduceIte, reduceCtorEq, Nat.reduceBEq]) | (simp (disch := first | assumption | omega | exact Seg.len _ | exact Vec.len _ | exact Leg.len _ | exact num_len _ | exact rowA_len _ | exact rowA_len | exact rowT_len _ | exact rowT_len | exact Seg.len | exact Vec.len | exact Leg.len | exact num_len | exact AV.slen _ _ | rfl) only [vP]) | (with_reducible (first | refine gsnd (fun _ => ?_) (fun _ => ?_) | refine csnd (fun _ => ?_) (fun _ => ?_) | refine gsd (fun _ => ?_) (fun _ => ?_) | refine csd (fun _ => ?_) (fun _ => ?_) | refine gsn (fun _ => ?_) (fun _ => ?_) | refine csn (fun _ => ?_) (fun _ => ?_))) | (with_reducible refine gs (fun _ => ?_) (fun _ => ?_)) | (with_reducible refine cs_ (fun _ => ?_) (fun _ => ?_)) | (with_reducible refine objQ_i (fun _ _ => ?_); (repeat (with_reducible refine imp_i (fun _ => ?_)))) | ((try with_reducible refine appK_a ?_); first | (with_reducible refine appD_F (by refine ⟨?_, ?_, ?_, ?_⟩ <;> (first | assumption | omega | exact St.has_add (by assumption) | (simp only [ins_has]; exact St.has_add (by assumption)) | (simp only [ins_has, fresh_ins, kill_ins, add_ins] at *; exact St.has_add (by assumption)) | (simp only [*, ins_has, has_full, St.has_add]; done) | (simp [-List.map_take, -List.map_drop, or_imp, forall_and, Seg.a, Vec.a, Leg.a, num, okEl, cells_agg, cells_int, cells_sl, cells_bool, AV.isCell]; done) | (simp; omega))) (fun _ _ => ?_)) | (with_reducible refine appD_V (by refine ⟨?_, ?_, ?_, ?_, ?_⟩ <;> (first | assumption | omega | exact St.has_add (by assumption) | (simp only [ins_has]; exact St.has_add (by assumption)) | (simp only [ins_has, fresh_ins, kill_ins, add_ins] at *; exact St.has_add (by assumption)) | (simp only [*, ins_has, has_full, St.has_add]; done) | (simp [-List.map_take, -List.map_drop, or_imp, forall_and, Seg.a, Vec.a, Leg.a, num, okEl, cells_agg, cells_int, cells_sl, cells_bool, AV.isCell]; done) | (simp; omega))) (fun _ _ => ?_))) | (with_reducible refine freshQ_i (fun _ _ => ?_)) | (with_reducible refine nilQ_i (fun _ _ => ?_))))
  (all_goals (first | rfl | (simp_all; done) | (simp_all <;> omega)))
def fA : List Seg := [⟨2, ⟨3, 1⟩⟩, ⟨8, ⟨0, 0⟩⟩]
def gA : List Seg := [⟨5, ⟨1, 1⟩⟩, ⟨9, ⟨0, 0⟩⟩]
def sA : List Seg := [⟨2, ⟨3, 1⟩⟩, ⟨5, ⟨4, 2⟩⟩, ⟨8, ⟨1, 1⟩⟩, ⟨9, ⟨0, 0⟩⟩]
def mA : List Seg := [⟨5, ⟨1, 1⟩⟩, ⟨8, ⟨0, 0⟩⟩]
def rA : List Seg := [⟨2, ⟨3, 1⟩⟩, ⟨4, ⟨0, 0⟩⟩]
def bA : List Seg := [⟨2, ⟨0, 0⟩⟩]
theorem e1 : addC [fA, gA] = (sA, 0) := by rw [addC_sum]; decide
theorem e2 : madeF subV fA fA = ([], 0) := by rw [sub_do]; decide
theorem e3 : madeF (fun a b => (minV a b, 0)) fA gA = (mA, 0) := by rw [min_do]; decide
theorem e4 : rangeC fA 4 8 ⟨-3, -1⟩ = (rA, 0) := by unfold rangeC; rw [add_do]; decide
theorem e5 : leC gA fA 0 = (8, false, 0) := by rw [le_do]; decide
theorem e6 : leC gA fA 9 = (0, true, 0) := by rw [le_do]; decide
theorem e7 : rangeC fA 4 3 ⟨0, 0⟩ = ([], 2) := by unfold rangeC; rw [add_do]; decide
theorem e8 : addC [gA, bA] = ([], 5) := by rw [addC_sum]; decide
theorem head_3 : VPure Try.prog 25 [] (.bool true) := by
  have a1 := Add_c [(fA, .full), (gA, .full)] (by simp) (by simp [fA, gA]) .full
  have a2 := Sub_c fA fA (by simp [fA]) (by simp [fA]) .full .full
  have a3 := Min_c fA gA (by simp [fA]) (by simp [gA]) .full .full
  have a4 := Range_c fA (by simp [fA]) .full 4 8 (-3) (-1)
  have a5 := LE_c gA fA (by simp [gA]) (by simp [fA]) .full .full 0
  have a6 := LE_c gA fA (by simp [gA]) (by simp [fA]) .full .full 9
  have a7 := Range_c fA (by simp [fA]) .full 4 3 0 0
  have a8 := Add_c [(gA, .full), (bA, .full)] (by simp) (by simp [gA, bA]) .full
  have s1 := Same_2 sA sA (by simp [sA]) .no .full
  have s2 := Same_2 mA mA (by simp [mA]) .no .full
  have s3 := Same_2 rA rA (by simp [rA]) .no .full
  have q1 : sameF sA sA = true := by decide
  have q2 : sameF mA mA = true := by decide
  have q3 : sameF rA rA = true := by decide
  rw [q1] at s1
  rw [q2] at s2
  rw [q3] at s3
  clear q1 q2 q3
  simp only [List.map_cons, List.map_nil, rowT, e1] at a1
  simp only [e2] at a2
  simp only [e3] at a3
  simp only [e4] at a4
  simp only [e5] at a5
  simp only [e6] at a6
  simp only [e7] at a7
  simp only [List.map_cons, List.map_nil, rowT, e8] at a8
  simp only [fA, gA, sA, mA, rA, bA, List.map_cons, List.map_nil, Seg.a, num] at a1 a2 a3 a4 a5 a6 a7 a8 s1 s2 s3
  refine VPure.of v_liverylaw03_head_ok (Nat.le_of_ble_eq_true rfl) (fun Z st => ?_)
  simp only [v_liverylaw03_head, ↓vD, vU, VE.ev, VE.evs, retvs, tupOf, grab, vfill, vbsl, eqCells, eqCell, veqs, veqs1, vmnx, AV.isCell, AV.isUndef, Nat.reduceEqDiff, Nat.reduceAdd, Nat.reduceSub, Nat.reduceLeDiff, Nat.reduceLT, reduceIte, reduceCtorEq, Nat.reduceBEq, k_app, k_slc1]
  (repeat' (first | (simp (config := { maxDischargeDepth := 16 }) only [*, vX, Int.reduceLE, Int.reduceLT, Int.reduceGE, Int.reduceGT, Int.reduceBEq, Int.reduceBNe, Int.reduceAdd, Int.reduceSub, Int.reduceMul, Int.reduceNeg, ↓vD, vU, VE.ev, VE.evs, retvs, tupOf, grab, vfill, vbsl, eqCells, eqCell, veqs, veqs1, vmnx, AV.isCell, AV.isUndef, Nat.reduceEqDiff, Nat.reduceAdd, Nat.reduceSub, Nat.reduceLeDiff, Nat.reduceLT, reduceIte, reduceCtorEq, Nat.reduceBEq]) | (simp (disch := first | assumption | omega | exact Seg.len _ | exact Vec.len _ | exact Leg.len _ | exact num_len _ | exact rowA_len _ | exact rowA_len | exact rowT_len _ | exact rowT_len | exact Seg.len | exact Vec.len | exact Leg.len | exact num_len | exact AV.slen _ _ | rfl) only [vP]) | (with_reducible (first | refine gsnd (fun _ => ?_) (fun _ => ?_) | refine csnd (fun _ => ?_) (fun _ => ?_) | refine gsd (fun _ => ?_) (fun _ => ?_) | refine csd (fun _ => ?_) (fun _ => ?_) | refine gsn (fun _ => ?_) (fun _ => ?_) | refine csn (fun _ => ?_) (fun _ => ?_))) | (with_reducible refine gs (fun _ => ?_) (fun _ => ?_)) | (with_reducible refine cs_ (fun _ => ?_) (fun _ => ?_)) | (with_reducible refine objQ_i (fun _ _ => ?_); (repeat (with_reducible refine imp_i (fun _ => ?_)))) | ((try with_reducible refine appK_a ?_); first | (with_reducible refine appD_F (by refine ⟨?_, ?_, ?_, ?_⟩ <;> (first | assumption | omega | exact St.has_add (by assumption) | (simp only [ins_has]; exact St.has_add (by assumption)) | (simp only [ins_has, fresh_ins, kill_ins, add_ins] at *; exact St.has_add (by assumption)) | (simp only [*, ins_has, has_full, St.has_add]; done) | (simp [-List.map_take, -List.map_drop, or_imp, forall_and, Seg.a, Vec.a, Leg.a, num, okEl, cells_agg, cells_int, cells_sl, cells_bool, AV.isCell]; done) | (simp; omega))) (fun _ _ => ?_)) | (with_reducible refine appD_V (by refine ⟨?_, ?_, ?_, ?_, ?_⟩ <;> (first | assumption | omega | exact St.has_add (by assumption) | (simp only [ins_has]; exact St.has_add (by assumption)) | (simp only [ins_has, fresh_ins, kill_ins, add_ins] at *; exact St.has_add (by assumption)) | (simp only [*, ins_has, has_full, St.has_add]; done) | (simp [-List.map_take, -List.map_drop, or_imp, forall_and, Seg.a, Vec.a, Leg.a, num, okEl, cells_agg, cells_int, cells_sl, cells_bool, AV.isCell]; done) | (simp; omega))) (fun _ _ => ?_))) | (with_reducible refine freshQ_i (fun _ _ => ?_)) | (with_reducible refine nilQ_i (fun _ _ => ?_)) | (with_reducible first | refine callH_use (seg_3 _ _ _) ?_ | refine pureQ_use (seg_3 _ _ _) ?_) | (with_reducible first | refine callH_use (a1) ?_ | refine pureQ_use (a1) ?_) | (with_reducible first | refine callH_use (a2) ?_ | refine pureQ_use (a2) ?_) | (with_reducible first | refine callH_use (a3) ?_ | refine pureQ_use (a3) ?_) | (with_reducible first | refine callH_use (a4) ?_ | refine pureQ_use (a4) ?_) | (with_reducible first | refine callH_use (a5) ?_ | refine pureQ_use (a5) ?_) | (with_reducible first | refine callH_use (a6) ?_ | refine pureQ_use (a6) ?_) | (with_reducible first | refine callH_use (a7) ?_ | refine pureQ_use (a7) ?_) | (with_reducible first | refine callH_use (a8) ?_ | refine pureQ_use (a8) ?_) | (with_reducible first | refine callH_use (s1) ?_ | refine pureQ_use (s1) ?_) | (with_reducible first | refine callH_use (s2) ?_ | refine pureQ_use (s2) ?_) | (with_reducible first | refine callH_use (s3) ?_ | refine pureQ_use (s3) ?_)))
end Go.Proofs.Ytddbnncimggogaa.V
end
section
set_option linter.unusedSimpArgs false
set_option linter.unusedVariables false
/- CalcTells, walked. -/
namespace Go.Proofs.Ytddbnncimggogaa.V
open Go Go.Proofs
set_option maxRecDepth 100000
set_option maxHeartbeats 4000000
theorem sumF_len : ∀ (ls : List (List Seg)) (acc : List Seg), (sumF ls acc).1.length ≤ acc.length + (ls.map List.length).sum
  | [], acc => by simp [sumF]
  | x :: ls, acc => by
    unfold sumF
    split
    · have := sumF_len ls (doR 0 acc x).1
      have := doR_len 0 acc x
      simp; omega
    · simp
theorem same_self (f : List Seg) : sameF f f = true := by simp [sameF]
theorem calcTells_v (f : List Seg) (_ : ∀ x ∈ f, wfSeg x) (hf : (f.length : Int) ≤ 9223372036854775807) (g : List Seg) (_ : ∀ x ∈ g, wfSeg x) (hg : (g.length : Int) ≤ 9223372036854775807) (a : Int) (_ : I64 a) :
    VPure Try.prog 8 [.sl (f.map Seg.a) .no, .sl (g.map Seg.a) .no, .int .i64 a] (.bool true) := by
  have hgr := great_3 f g hf hg .no .no
  refine VPure.of v_liverylaw03_CalcTells_ok (Nat.le_of_ble_eq_true rfl) (fun Z st => ?_)
  by_cases hbig : (decide (60 < f.length) || decide (60 < g.length)) = true
  · rw [hbig] at hgr
    clear hbig
    simp only [v_liverylaw03_CalcTells, ↓vD, vU, VE.ev, VE.evs, retvs, tupOf, grab, vfill, vbsl, eqCells, eqCell, veqs, veqs1, vmnx, AV.isCell, AV.isUndef, Nat.reduceEqDiff, Nat.reduceAdd, Nat.reduceSub, Nat.reduceLeDiff, Nat.reduceLT, reduceIte, reduceCtorEq, Nat.reduceBEq, k_app, k_slc1]
    (repeat' (first | (simp (config := { maxDischargeDepth := 16 }) only [*, vX, Int.reduceLE, Int.reduceLT, Int.reduceGE, Int.reduceGT, Int.reduceBEq, Int.reduceBNe, Int.reduceAdd, Int.reduceSub, Int.reduceMul, Int.reduceNeg, ↓vD, vU, VE.ev, VE.evs, retvs, tupOf, grab, vfill, vbsl, eqCells, eqCell, veqs, veqs1, vmnx, AV.isCell, AV.isUndef, Nat.reduceEqDiff, Nat.reduceAdd, Nat.reduceSub, Nat.reduceLeDiff, Nat.reduceLT, reduceIte, reduceCtorEq, Nat.reduceBEq]) | (simp (disch := first | assumption | omega | exact Seg.len _ | exact Vec.len _ | exact Leg.len _ | exact num_len _ | exact rowA_len _ | exact rowA_len | exact rowT_len _ | exact rowT_len | exact Seg.len | exact Vec.len | exact Leg.len | exact num_len | exact AV.slen _ _ | rfl) only [vP]) | (with_reducible (first | refine gsnd (fun _ => ?_) (fun _ => ?_) | refine csnd (fun _ => ?_) (fun _ => ?_) | refine gsd (fun _ => ?_) (fun _ => ?_) | refine csd (fun _ => ?_) (fun _ => ?_) | refine gsn (fun _ => ?_) (fun _ => ?_) | refine csn (fun _ => ?_) (fun _ => ?_))) | (with_reducible refine gs (fun _ => ?_) (fun _ => ?_)) | (with_reducible refine cs_ (fun _ => ?_) (fun _ => ?_)) | (with_reducible refine objQ_i (fun _ _ => ?_); (repeat (with_reducible refine imp_i (fun _ => ?_)))) | ((try with_reducible refine appK_a ?_); first | (with_reducible refine appD_F (by refine ⟨?_, ?_, ?_, ?_⟩ <;> (first | assumption | omega | exact St.has_add (by assumption) | (simp only [ins_has]; exact St.has_add (by assumption)) | (simp only [ins_has, fresh_ins, kill_ins, add_ins] at *; exact St.has_add (by assumption)) | (simp only [*, ins_has, has_full, St.has_add]; done) | (simp [-List.map_take, -List.map_drop, or_imp, forall_and, Seg.a, Vec.a, Leg.a, num, okEl, cells_agg, cells_int, cells_sl, cells_bool, AV.isCell]; done) | (simp; omega))) (fun _ _ => ?_)) | (with_reducible refine appD_V (by refine ⟨?_, ?_, ?_, ?_, ?_⟩ <;> (first | assumption | omega | exact St.has_add (by assumption) | (simp only [ins_has]; exact St.has_add (by assumption)) | (simp only [ins_has, fresh_ins, kill_ins, add_ins] at *; exact St.has_add (by assumption)) | (simp only [*, ins_has, has_full, St.has_add]; done) | (simp [-List.map_take, -List.map_drop, or_imp, forall_and, Seg.a, Vec.a, Leg.a, num, okEl, cells_agg, cells_int, cells_sl, cells_bool, AV.isCell]; done) | (simp; omega))) (fun _ _ => ?_))) | (with_reducible refine freshQ_i (fun _ _ => ?_)) | (with_reducible refine nilQ_i (fun _ _ => ?_)) | (with_reducible first | refine callH_use (hgr) ?_ | refine pureQ_use (hgr) ?_) | (with_reducible first | refine callH_use (head_3) ?_ | refine pureQ_use (head_3) ?_)))
  · have hb : (decide (60 < f.length) || decide (60 < g.length)) = false := by simpa using hbig
    rw [hb] at hgr
    have hf6 : f.length ≤ 60 := by simp at hb; omega
    have hg6 : g.length ≤ 60 := by simp at hb; omega
    clear hbig hb
    have a1 := Add_c [(f, .no), (g, .no)] (by simp) (by simp; omega) .full
    have b1 := Sum_3 [f, g] (by simp) (by simp; omega) .full
    have hS := sumF_len [f, g] []
    have a2 := Sub_c f g (by omega) (by omega) .no .no
    have b2 := Do_3 1 f g (by omega) (by omega) .no .no
    have a3 := Min_c f g (by omega) (by omega) .no .no
    have b3 := Do_3 2 f g (by omega) (by omega) .no .no
    have a4 := Max_c f g (by omega) (by omega) .no .no
    have b4 := Do_3 3 f g (by omega) (by omega) .no .no
    have a5 := LE_c f g (by omega) (by omega) .no .no a
    have b5 := LE_3 f g (by omega) (by omega) .no .no a
    have l1 : (sumR [f, g]).1.length ≤ 1000 := by
      unfold sumR
      split
      · simp at hS; omega
      · simp
    have l2 := doR_len 1 f g
    have l3 := doR_len 2 f g
    have l4 := doR_len 3 f g
    have s1 := Same_2 (sumR [f, g]).1 (sumR [f, g]).1 (by omega) .no .no
    have s2 := Same_2 (doR 1 f g).1 (doR 1 f g).1 (by omega) .no .no
    have s3 := Same_2 (doR 2 f g).1 (doR 2 f g).1 (by omega) .no .no
    have s4 := Same_2 (doR 3 f g).1 (doR 3 f g).1 (by omega) .no .no
    simp only [same_self] at s1 s2 s3 s4
    simp only [List.map_cons, List.map_nil, addC_sum, rowT, num] at a1
    simp only [List.map_cons, List.map_nil, rowA, num] at b1
    rw [sub_do] at a2
    rw [min_do] at a3
    rw [max_do] at a4
    rw [le_do] at a5
    simp only [num] at a2 a3 a4 a5 b2 b3 b4 b5
    obtain ⟨S, hS'⟩ : ∃ S, sumR [f, g] = S := ⟨_, rfl⟩
    obtain ⟨D1, h1⟩ : ∃ D, doR 1 f g = D := ⟨_, rfl⟩
    obtain ⟨D2, h2⟩ : ∃ D, doR 2 f g = D := ⟨_, rfl⟩
    obtain ⟨D3, h3⟩ : ∃ D, doR 3 f g = D := ⟨_, rfl⟩
    obtain ⟨L, hL⟩ : ∃ L, leR f g a = L := ⟨_, rfl⟩
    rw [hS'] at a1 b1 s1
    rw [h1] at a2 b2 s2
    rw [h2] at a3 b3 s3
    rw [h3] at a4 b4 s4
    rw [hL] at a5 b5
    clear hS' h1 h2 h3 hL l1 l2 l3 l4 hS hf6 hg6 hf hg
    simp only [v_liverylaw03_CalcTells, ↓vD, vU, VE.ev, VE.evs, retvs, tupOf, grab, vfill, vbsl, eqCells, eqCell, veqs, veqs1, vmnx, AV.isCell, AV.isUndef, Nat.reduceEqDiff, Nat.reduceAdd, Nat.reduceSub, Nat.reduceLeDiff, Nat.reduceLT, reduceIte, reduceCtorEq, Nat.reduceBEq, k_app, k_slc1]
    (repeat' (first | (simp (config := { maxDischargeDepth := 16 }) only [*, vX, Int.reduceLE, Int.reduceLT, Int.reduceGE, Int.reduceGT, Int.reduceBEq, Int.reduceBNe, Int.reduceAdd, Int.reduceSub, Int.reduceMul, Int.reduceNeg, ↓vD, vU, VE.ev, VE.evs, retvs, tupOf, grab, vfill, vbsl, eqCells, eqCell, veqs, veqs1, vmnx, AV.isCell, AV.isUndef, Nat.reduceEqDiff, Nat.reduceAdd, Nat.reduceSub, Nat.reduceLeDiff, Nat.reduceLT, reduceIte, reduceCtorEq, Nat.reduceBEq]) | (simp (disch := first | assumption | omega | exact Seg.len _ | exact Vec.len _ | exact Leg.len _ | exact num_len _ | exact rowA_len _ | exact rowA_len | exact rowT_len _ | exact rowT_len | exact Seg.len | exact Vec.len | exact Leg.len | exact num_len | exact AV.slen _ _ | rfl) only [vP]) | (with_reducible (first | refine gsnd (fun _ => ?_) (fun _ => ?_) | refine csnd (fun _ => ?_) (fun _ => ?_) | refine gsd (fun _ => ?_) (fun _ => ?_) | refine csd (fun _ => ?_) (fun _ => ?_) | refine gsn (fun _ => ?_) (fun _ => ?_) | refine csn (fun _ => ?_) (fun _ => ?_))) | (with_reducible refine gs (fun _ => ?_) (fun _ => ?_)) | (with_reducible refine cs_ (fun _ => ?_) (fun _ => ?_)) | (with_reducible refine objQ_i (fun _ _ => ?_); (repeat (with_reducible refine imp_i (fun _ => ?_)))) | ((try with_reducible refine appK_a ?_); first | (with_reducible refine appD_F (by refine ⟨?_, ?_, ?_, ?_⟩ <;> (first | assumption | omega | exact St.has_add (by assumption) | (simp only [ins_has]; exact St.has_add (by assumption)) | (simp only [ins_has, fresh_ins, kill_ins, add_ins] at *; exact St.has_add (by assumption)) | (simp only [*, ins_has, has_full, St.has_add]; done) | (simp [-List.map_take, -List.map_drop, or_imp, forall_and, Seg.a, Vec.a, Leg.a, num, okEl, cells_agg, cells_int, cells_sl, cells_bool, AV.isCell]; done) | (simp; omega))) (fun _ _ => ?_)) | (with_reducible refine appD_V (by refine ⟨?_, ?_, ?_, ?_, ?_⟩ <;> (first | assumption | omega | exact St.has_add (by assumption) | (simp only [ins_has]; exact St.has_add (by assumption)) | (simp only [ins_has, fresh_ins, kill_ins, add_ins] at *; exact St.has_add (by assumption)) | (simp only [*, ins_has, has_full, St.has_add]; done) | (simp [-List.map_take, -List.map_drop, or_imp, forall_and, Seg.a, Vec.a, Leg.a, num, okEl, cells_agg, cells_int, cells_sl, cells_bool, AV.isCell]; done) | (simp; omega))) (fun _ _ => ?_))) | (with_reducible refine freshQ_i (fun _ _ => ?_)) | (with_reducible refine nilQ_i (fun _ _ => ?_)) | (with_reducible first | refine callH_use (hgr) ?_ | refine pureQ_use (hgr) ?_) | (with_reducible first | refine callH_use (head_3) ?_ | refine pureQ_use (head_3) ?_) | (with_reducible first | refine callH_use (a1) ?_ | refine pureQ_use (a1) ?_) | (with_reducible first | refine callH_use (b1) ?_ | refine pureQ_use (b1) ?_) | (with_reducible first | refine callH_use (a2) ?_ | refine pureQ_use (a2) ?_) | (with_reducible first | refine callH_use (b2) ?_ | refine pureQ_use (b2) ?_) | (with_reducible first | refine callH_use (a3) ?_ | refine pureQ_use (a3) ?_) | (with_reducible first | refine callH_use (b3) ?_ | refine pureQ_use (b3) ?_) | (with_reducible first | refine callH_use (a4) ?_ | refine pureQ_use (a4) ?_) | (with_reducible first | refine callH_use (b4) ?_ | refine pureQ_use (b4) ?_) | (with_reducible first | refine callH_use (a5) ?_ | refine pureQ_use (a5) ?_) | (with_reducible first | refine callH_use (b5) ?_ | refine pureQ_use (b5) ?_) | (with_reducible first | refine callH_use (s1) ?_ | refine pureQ_use (s1) ?_) | (with_reducible first | refine callH_use (s2) ?_ | refine pureQ_use (s2) ?_) | (with_reducible first | refine callH_use (s3) ?_ | refine pureQ_use (s3) ?_) | (with_reducible first | refine callH_use (s4) ?_ | refine pureQ_use (s4) ?_)))
end Go.Proofs.Ytddbnncimggogaa.V
end
