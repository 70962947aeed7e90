/- Texts of this claim, joined: Ccalc, VXliveryref02, Cref, Cref2, VXliveryref03, Cref3, VFz, Ccalc2, CsoSeg, CspSeg, CsqSeg, Crle2. -/
import Derived.Test.YtddbnncimggogaaQSlotMore2
import Derived.Test.YtddbnncimggogaaQSlotMore1
import Derived.Test.YtddbnncimggogaaProg
section
set_option linter.unusedSimpArgs false
set_option linter.unusedVariables false
/- calc.both's iterator. -/
namespace Go.Proofs.Ytddbnncimggogaa.V
open Go Go.Proofs
set_option maxRecDepth 100000
set_option maxHeartbeats 4000000
/-- The times at which one of two functions changes, and both values from then on. -/
def bothF : List Seg → List Seg → Vec → Vec → List (Int × Vec × Vec)
  | [], [], _, _ => []
  | x :: f, [], _, b => (x.t, x.v, b) :: bothF f [] x.v b
  | [], y :: g, a, _ => (y.t, a, y.v) :: bothF [] g a y.v
  | x :: f, y :: g, a, b => if x.t < y.t then (x.t, x.v, b) :: bothF f (y :: g) x.v b else if y.t < x.t then (y.t, a, y.v) :: bothF (x :: f) g a y.v else (x.t, x.v, y.v) :: bothF f g x.v y.v
termination_by f g => f.length + g.length
def nowA (a b : Vec) : AV := .agg [.int .i64 a.m, .int .i64 a.c, .int .i64 b.m, .int .i64 b.c]
def XS (b2 b3 b4 : Nat) (o2 o3 o4 : AObj) (S : St) : St := ((S.ins b2 o2).ins b3 o3).ins b4 o4
def YK (I : Nat → St → Prop) (E : St → Prop) (k : Nat) (X : St → St) (v : AV) (s : St) : Prop :=
  (v = .bool true ∧ ∃ S', I (k + 1) S' ∧ (X S').le s) ∨ (v = .bool false ∧ ∃ S', E S' ∧ (X S').le s)
theorem le_XS {b2 b3 b4 : Nat} {o2 o3 o4 : AObj} {S : St} (h2 : S.objs b2 = none) (h3 : S.objs b3 = none) (h4 : S.objs b4 = none) : S.le (XS b2 b3 b4 o2 o3 o4 S) := by
  unfold XS
  (refine ⟨fun i o e => ?_, fun _ h => h⟩; revert e; simp only [St.ins, St.del, add_objs, kill_objs]; (repeat' split); all_goals (first | exact id | (intros; contradiction) | (intros; subst_vars; contradiction) | (intros; simp_all; done) | (intros; subst_vars; simp_all; done)))
theorem drop_cons {α : Type} {L : List α} {k : Nat} {x : α} {r : List α} (h : L.drop k = x :: r) : ∃ hk : k < L.length, L[k] = x ∧ L.drop (k + 1) = r := by
  have hk : k < L.length := by
    rcases Nat.lt_or_ge k L.length with h1 | h1
    · exact h1
    · rw [List.drop_of_length_le h1] at h; cases h
  rw [List.drop_eq_getElem_cons hk] at h
  cases h
  exact ⟨hk, rfl, rfl⟩
theorem cutOk (a b c : Int) (xs : List Seg) (t : Tok) : slcOk true (.sl (.agg [.int .i64 a, .int .i64 b, .int .i64 c] :: xs.map Seg.a) t) 3 = True := by
  rw [k_slc1]; simp [cells_agg, Seg.len]
theorem cutE (x : AV) (xs : List AV) (t : Tok) (q : IntKind) : vslc (.sl (x :: xs) t) (some (.int q 1)) none none = some (.sl xs .no) := by
  simp only [vslc, bnd, List.length_cons]
  rw [if_pos (by omega)]
  simp
theorem both_it {Y : Im} {l : Nat} (f g : List Seg) (t2 t3 : Tok) (b2 b3 : Nat) (n23 : ¬ b2 = b3) (S0 : St) (h2 : S0.objs b2 = none) (h3 : S0.objs b3 = none) (I : Nat → St → Prop) (E : St → Prop)
    (hI : ∀ k S, I k S → ∀ i, S0.objs i = none → S.objs i = none) (hE : ∀ S, E S → ∀ i, S0.objs i = none → S.objs i = none) (h0 : I 0 S0)
    (hy : ∀ k (hk : k < (bothF f g v0 v0).length) S b4 o2 o3 o4, I k S → S.objs b2 = none → S.objs b3 = none → S.objs b4 = none → ¬ b2 = b4 → ¬ b3 = b4 →
      VYield Try.prog Y l [.int .i64 (bothF f g v0 v0)[k].1, nowA (bothF f g v0 v0)[k].2.1 (bothF f g v0 v0)[k].2.2] (XS b2 b3 b4 o2 o3 o4 S) (YK I E k (XS b2 b3 b4 o2 o3 o4))) :
    VCalls Try.prog Y 121 [.yld l, .ptr b2 0, .ptr b3 0] ((S0.ins b2 (.cells [.sl (f.map Seg.a) t2])).ins b3 (.cells [.sl (g.map Seg.a) t3]))
      (fun v s => v = .tup [] ∧ ∃ S', (I (bothF f g v0 v0).length S' ∨ E S') ∧ S'.le s) := by
  have n32 : ¬ b3 = b2 := fun e => n23 e.symm
  obtain ⟨L, hL⟩ : ∃ L, bothF f g v0 v0 = L := ⟨_, rfl⟩
  simp only [hL] at hy ⊢
  refine VCalls.of v_calc_both_1_ok (Nat.le_of_ble_eq_true rfl) ?_
  simp only [v_calc_both_1, ↓vD, vU, VE.ev, VE.evs, retvs, tupOf, grab, vfill, vbsl, eqCells, eqCell, veqs, veqs1, vmnx, AV.isCell, AV.isUndef, Nat.reduceEqDiff, Nat.reduceAdd, Nat.reduceSub, Nat.reduceLeDiff, Nat.reduceLT, reduceIte, reduceCtorEq, Nat.reduceBEq, k_app, k_slc1]
  have HY : Hid (∀ k it r, L.drop k = it :: r → ∀ S b4 o2 o3 o4, I k S → S.objs b2 = none → S.objs b3 = none → S.objs b4 = none → ¬ b2 = b4 → ¬ b3 = b4 →
      VYield Try.prog Y l [.int .i64 it.1, nowA it.2.1 it.2.2] (XS b2 b3 b4 o2 o3 o4 S) (YK I E k (XS b2 b3 b4 o2 o3 o4))) := ⟨fun k it r h => by
    obtain ⟨hk, rfl, _⟩ := drop_cons h
    exact hy k hk⟩
  have HL := Hid.mk hL
  have HI := Hid.mk (And.intro hI hE)
  clear hy hL hI hE
  (repeat' (first | (simp (config := { maxDischargeDepth := 16 }) only [*, vX, Int.reduceLE, Int.reduceLT, Int.reduceGE, Int.reduceGT, Int.reduceBEq, Int.reduceBNe, Int.reduceAdd, Int.reduceSub, Int.reduceMul, Int.reduceNeg, ↓vD, vU, VE.ev, VE.evs, retvs, tupOf, grab, vfill, vbsl, eqCells, eqCell, veqs, veqs1, vmnx, AV.isCell, AV.isUndef, Nat.reduceEqDiff, Nat.reduceAdd, Nat.reduceSub, Nat.reduceLeDiff, Nat.reduceLT, reduceIte, reduceCtorEq, Nat.reduceBEq]) | (simp (disch := first | assumption | omega | exact Seg.len _ | exact Vec.len _ | exact Leg.len _ | exact num_len _ | exact rowA_len _ | exact rowA_len | exact rowT_len _ | exact rowT_len | exact Seg.len | exact Vec.len | exact Leg.len | exact num_len | exact AV.slen _ _ | rfl) only [vP]) | (with_reducible (first | refine gsnd (fun _ => ?_) (fun _ => ?_) | refine csnd (fun _ => ?_) (fun _ => ?_) | refine gsd (fun _ => ?_) (fun _ => ?_) | refine csd (fun _ => ?_) (fun _ => ?_) | refine gsn (fun _ => ?_) (fun _ => ?_) | refine csn (fun _ => ?_) (fun _ => ?_))) | (with_reducible refine gs (fun _ => ?_) (fun _ => ?_)) | (with_reducible refine cs_ (fun _ => ?_) (fun _ => ?_)) | (with_reducible refine objQ_i (fun _ _ => ?_); (repeat (with_reducible refine imp_i (fun _ => ?_)))) | ((try with_reducible refine appK_a ?_); first | (with_reducible refine appD_F (by refine ⟨?_, ?_, ?_, ?_⟩ <;> (first | assumption | omega | exact St.has_add (by assumption) | (simp only [ins_has]; exact St.has_add (by assumption)) | (simp only [ins_has, fresh_ins, kill_ins, add_ins] at *; exact St.has_add (by assumption)) | (simp only [*, ins_has, has_full, St.has_add]; done) | (simp [-List.map_take, -List.map_drop, or_imp, forall_and, Seg.a, Vec.a, Leg.a, num, okEl, cells_agg, cells_int, cells_sl, cells_bool, AV.isCell]; done) | (simp; omega))) (fun _ _ => ?_)) | (with_reducible refine appD_V (by refine ⟨?_, ?_, ?_, ?_, ?_⟩ <;> (first | assumption | omega | exact St.has_add (by assumption) | (simp only [ins_has]; exact St.has_add (by assumption)) | (simp only [ins_has, fresh_ins, kill_ins, add_ins] at *; exact St.has_add (by assumption)) | (simp only [*, ins_has, has_full, St.has_add]; done) | (simp [-List.map_take, -List.map_drop, or_imp, forall_and, Seg.a, Vec.a, Leg.a, num, okEl, cells_agg, cells_int, cells_sl, cells_bool, AV.isCell]; done) | (simp; omega))) (fun _ _ => ?_))) | (with_reducible refine freshQ_i (fun _ _ => ?_)) | (with_reducible refine nilQ_i (fun _ _ => ?_))))
  rename_i b4 h4 n42 n24 n43 n34
  refine loopm_of (by simp only [asgL, dsts, List.cons_append, List.nil_append, List.append_nil]; rfl) (by simp only [noR, Bool.and_true, Bool.and_false]; rfl) (fun fr s => ∃ (k : Nat) (f1 g1 : List Seg) (a b : Vec) (S : St) (s2 s3 : Tok), s = XS b2 b3 b4 (.cells [.sl (f1.map Seg.a) s2]) (.cells [.sl (g1.map Seg.a) s3]) (.cells [.int .i64 a.m, .int .i64 a.c, .int .i64 b.m, .int .i64 b.c]) S ∧ I k S ∧ k ≤ L.length ∧ Hid (L.drop k = bothF f1 g1 a b))
    (fun _ s => slen (s.objs b2) + slen (s.objs b3)) ?_ ?_
  · exact ⟨0, f, g, v0, v0, S0, t2, t3, rfl, h0, by omega, ⟨HL.out.symm⟩⟩
  · rintro fr s hf hd ⟨k, f1, g1, a, b, S, s2, s3, rfl, hIk, hkL, HK⟩
    have hS2 := HI.out.1 k S hIk b2 h2
    have hS3 := HI.out.1 k S hIk b3 h3
    have hS4 := HI.out.1 k S hIk b4 h4
    have mu : ∀ (o2 o3 o4 : AObj) (S : St), slen ((XS b2 b3 b4 o2 o3 o4 S).objs b2) + slen ((XS b2 b3 b4 o2 o3 o4 S).objs b3) = slen (some o2) + slen (some o3) := by
      intro o2 o3 o4 S
      simp [XS, St.ins, n24, n34, n23, n32]
    have MU := Hid.mk mu
    rw [mu]
    clear mu
    cases f1 with
    | nil =>
      cases g1 with
      | nil =>
        have hk : k = L.length := by
          have := HK.out
          rw [bothF] at this
          have := List.drop_eq_nil_iff.1 this
          omega
        subst hk
        have hle := le_XS (o2 := .cells [.sl [] s2]) (o3 := .cells [.sl [] s3]) (o4 := .cells [.int .i64 a.m, .int .i64 a.c, .int .i64 b.m, .int .i64 b.c]) hS2 hS3 hS4
        have hle2 := hle
        rw [XS]
        (repeat' (first | (simp (config := { maxDischargeDepth := 16 }) only [*, vX, Int.reduceLE, Int.reduceLT, Int.reduceGE, Int.reduceGT, Int.reduceBEq, Int.reduceBNe, Int.reduceAdd, Int.reduceSub, Int.reduceMul, Int.reduceNeg, ↓vD, vU, VE.ev, VE.evs, retvs, tupOf, grab, vfill, vbsl, eqCells, eqCell, veqs, veqs1, vmnx, AV.isCell, AV.isUndef, Nat.reduceEqDiff, Nat.reduceAdd, Nat.reduceSub, Nat.reduceLeDiff, Nat.reduceLT, reduceIte, reduceCtorEq, Nat.reduceBEq]) | (simp (disch := first | assumption | omega | exact Seg.len _ | exact Vec.len _ | exact Leg.len _ | exact num_len _ | exact rowA_len _ | exact rowA_len | exact rowT_len _ | exact rowT_len | exact Seg.len | exact Vec.len | exact Leg.len | exact num_len | exact AV.slen _ _ | rfl) only [vP]) | (with_reducible (first | refine gsnd (fun _ => ?_) (fun _ => ?_) | refine csnd (fun _ => ?_) (fun _ => ?_) | refine gsd (fun _ => ?_) (fun _ => ?_) | refine csd (fun _ => ?_) (fun _ => ?_) | refine gsn (fun _ => ?_) (fun _ => ?_) | refine csn (fun _ => ?_) (fun _ => ?_))) | (with_reducible refine gs (fun _ => ?_) (fun _ => ?_)) | (with_reducible refine cs_ (fun _ => ?_) (fun _ => ?_)) | (with_reducible refine objQ_i (fun _ _ => ?_); (repeat (with_reducible refine imp_i (fun _ => ?_)))) | ((try with_reducible refine appK_a ?_); first | (with_reducible refine appD_F (by refine ⟨?_, ?_, ?_, ?_⟩ <;> (first | assumption | omega | exact St.has_add (by assumption) | (simp only [ins_has]; exact St.has_add (by assumption)) | (simp only [ins_has, fresh_ins, kill_ins, add_ins] at *; exact St.has_add (by assumption)) | (simp only [*, ins_has, has_full, St.has_add]; done) | (simp [-List.map_take, -List.map_drop, or_imp, forall_and, Seg.a, Vec.a, Leg.a, num, okEl, cells_agg, cells_int, cells_sl, cells_bool, AV.isCell]; done) | (simp; omega))) (fun _ _ => ?_)) | (with_reducible refine appD_V (by refine ⟨?_, ?_, ?_, ?_, ?_⟩ <;> (first | assumption | omega | exact St.has_add (by assumption) | (simp only [ins_has]; exact St.has_add (by assumption)) | (simp only [ins_has, fresh_ins, kill_ins, add_ins] at *; exact St.has_add (by assumption)) | (simp only [*, ins_has, has_full, St.has_add]; done) | (simp [-List.map_take, -List.map_drop, or_imp, forall_and, Seg.a, Vec.a, Leg.a, num, okEl, cells_agg, cells_int, cells_sl, cells_bool, AV.isCell]; done) | (simp; omega))) (fun _ _ => ?_))) | (with_reducible refine freshQ_i (fun _ _ => ?_)) | (with_reducible refine nilQ_i (fun _ _ => ?_))))
        exact ⟨S, hle2, S, .inl hIk, St.le.refl _⟩
      | cons y g1 =>
        have hst : L.drop k = (y.t, a, y.v) :: bothF [] g1 a y.v := by rw [HK.out, bothF]
        obtain ⟨hk, _, hdrop⟩ := drop_cons hst
        rw [XS]
        (repeat' (first | (simp (config := { maxDischargeDepth := 16 }) only [*, Seg.a, cutOk, cutE, vX, Int.reduceLE, Int.reduceLT, Int.reduceGE, Int.reduceGT, Int.reduceBEq, Int.reduceBNe, Int.reduceAdd, Int.reduceSub, Int.reduceMul, Int.reduceNeg, ↓vD, vU, VE.ev, VE.evs, retvs, tupOf, grab, vfill, vbsl, eqCells, eqCell, veqs, veqs1, vmnx, AV.isCell, AV.isUndef, Nat.reduceEqDiff, Nat.reduceAdd, Nat.reduceSub, Nat.reduceLeDiff, Nat.reduceLT, reduceIte, reduceCtorEq, Nat.reduceBEq]) | (simp (disch := first | assumption | omega | exact Seg.len _ | exact Vec.len _ | exact Leg.len _ | exact num_len _ | exact rowA_len _ | exact rowA_len | exact rowT_len _ | exact rowT_len | exact Seg.len | exact Vec.len | exact Leg.len | exact num_len | exact AV.slen _ _ | rfl) only [Seg.a, cutOk, cutE, vP]) | (with_reducible (first | refine gsnd (fun _ => ?_) (fun _ => ?_) | refine csnd (fun _ => ?_) (fun _ => ?_) | refine gsd (fun _ => ?_) (fun _ => ?_) | refine csd (fun _ => ?_) (fun _ => ?_) | refine gsn (fun _ => ?_) (fun _ => ?_) | refine csn (fun _ => ?_) (fun _ => ?_))) | (with_reducible refine gs (fun _ => ?_) (fun _ => ?_)) | (with_reducible refine cs_ (fun _ => ?_) (fun _ => ?_)) | (with_reducible refine objQ_i (fun _ _ => ?_); (repeat (with_reducible refine imp_i (fun _ => ?_)))) | ((try with_reducible refine appK_a ?_); first | (with_reducible refine appD_F (by refine ⟨?_, ?_, ?_, ?_⟩ <;> (first | assumption | omega | exact St.has_add (by assumption) | (simp only [ins_has]; exact St.has_add (by assumption)) | (simp only [ins_has, fresh_ins, kill_ins, add_ins] at *; exact St.has_add (by assumption)) | (simp only [*, ins_has, has_full, St.has_add]; done) | (simp [-List.map_take, -List.map_drop, or_imp, forall_and, Seg.a, Vec.a, Leg.a, num, okEl, cells_agg, cells_int, cells_sl, cells_bool, AV.isCell]; done) | (simp; omega))) (fun _ _ => ?_)) | (with_reducible refine appD_V (by refine ⟨?_, ?_, ?_, ?_, ?_⟩ <;> (first | assumption | omega | exact St.has_add (by assumption) | (simp only [ins_has]; exact St.has_add (by assumption)) | (simp only [ins_has, fresh_ins, kill_ins, add_ins] at *; exact St.has_add (by assumption)) | (simp only [*, ins_has, has_full, St.has_add]; done) | (simp [-List.map_take, -List.map_drop, or_imp, forall_and, Seg.a, Vec.a, Leg.a, num, okEl, cells_agg, cells_int, cells_sl, cells_bool, AV.isCell]; done) | (simp; omega))) (fun _ _ => ?_))) | (with_reducible refine freshQ_i (fun _ _ => ?_)) | (with_reducible refine nilQ_i (fun _ _ => ?_))))
        refine yieldH_then (HY.out k _ _ hst S b4 (.cells [.sl (([]).map Seg.a) s2]) (.cells [.sl ((g1).map Seg.a) .no]) (.cells [.int .i64 (a).m, .int .i64 (a).c, .int .i64 (y.v).m, .int .i64 (y.v).c]) hIk hS2 hS3 hS4 n24 n34) (by rw [XS]; exact (by simp only [St.ins]; congr 1; funext i; (repeat' split) <;> (first | rfl | contradiction | (subst_vars; contradiction) | (subst_vars; rfl)))) ?_
        rintro v s (⟨rfl, S', hI', hle⟩ | ⟨rfl, S', hE', hle⟩)
        · (repeat' (first | (simp (config := { maxDischargeDepth := 16 }) only [*, vX, Int.reduceLE, Int.reduceLT, Int.reduceGE, Int.reduceGT, Int.reduceBEq, Int.reduceBNe, Int.reduceAdd, Int.reduceSub, Int.reduceMul, Int.reduceNeg, ↓vD, vU, VE.ev, VE.evs, retvs, tupOf, grab, vfill, vbsl, eqCells, eqCell, veqs, veqs1, vmnx, AV.isCell, AV.isUndef, Nat.reduceEqDiff, Nat.reduceAdd, Nat.reduceSub, Nat.reduceLeDiff, Nat.reduceLT, reduceIte, reduceCtorEq, Nat.reduceBEq]) | (simp (disch := first | assumption | omega | exact Seg.len _ | exact Vec.len _ | exact Leg.len _ | exact num_len _ | exact rowA_len _ | exact rowA_len | exact rowT_len _ | exact rowT_len | exact Seg.len | exact Vec.len | exact Leg.len | exact num_len | exact AV.slen _ _ | rfl) only [vP]) | (with_reducible (first | refine gsnd (fun _ => ?_) (fun _ => ?_) | refine csnd (fun _ => ?_) (fun _ => ?_) | refine gsd (fun _ => ?_) (fun _ => ?_) | refine csd (fun _ => ?_) (fun _ => ?_) | refine gsn (fun _ => ?_) (fun _ => ?_) | refine csn (fun _ => ?_) (fun _ => ?_))) | (with_reducible refine gs (fun _ => ?_) (fun _ => ?_)) | (with_reducible refine cs_ (fun _ => ?_) (fun _ => ?_)) | (with_reducible refine objQ_i (fun _ _ => ?_); (repeat (with_reducible refine imp_i (fun _ => ?_)))) | ((try with_reducible refine appK_a ?_); first | (with_reducible refine appD_F (by refine ⟨?_, ?_, ?_, ?_⟩ <;> (first | assumption | omega | exact St.has_add (by assumption) | (simp only [ins_has]; exact St.has_add (by assumption)) | (simp only [ins_has, fresh_ins, kill_ins, add_ins] at *; exact St.has_add (by assumption)) | (simp only [*, ins_has, has_full, St.has_add]; done) | (simp [-List.map_take, -List.map_drop, or_imp, forall_and, Seg.a, Vec.a, Leg.a, num, okEl, cells_agg, cells_int, cells_sl, cells_bool, AV.isCell]; done) | (simp; omega))) (fun _ _ => ?_)) | (with_reducible refine appD_V (by refine ⟨?_, ?_, ?_, ?_, ?_⟩ <;> (first | assumption | omega | exact St.has_add (by assumption) | (simp only [ins_has]; exact St.has_add (by assumption)) | (simp only [ins_has, fresh_ins, kill_ins, add_ins] at *; exact St.has_add (by assumption)) | (simp only [*, ins_has, has_full, St.has_add]; done) | (simp [-List.map_take, -List.map_drop, or_imp, forall_and, Seg.a, Vec.a, Leg.a, num, okEl, cells_agg, cells_int, cells_sl, cells_bool, AV.isCell]; done) | (simp; omega))) (fun _ _ => ?_))) | (with_reducible refine freshQ_i (fun _ _ => ?_)) | (with_reducible refine nilQ_i (fun _ _ => ?_))))
          exact ⟨_, hle, ⟨k + 1, [], g1, a, y.v, S', s2, .no, rfl, hI', by omega, ⟨hdrop⟩⟩, by rw [MU.out]; simp [slen] <;> omega⟩
        · (repeat' (first | (simp (config := { maxDischargeDepth := 16 }) only [*, vX, Int.reduceLE, Int.reduceLT, Int.reduceGE, Int.reduceGT, Int.reduceBEq, Int.reduceBNe, Int.reduceAdd, Int.reduceSub, Int.reduceMul, Int.reduceNeg, ↓vD, vU, VE.ev, VE.evs, retvs, tupOf, grab, vfill, vbsl, eqCells, eqCell, veqs, veqs1, vmnx, AV.isCell, AV.isUndef, Nat.reduceEqDiff, Nat.reduceAdd, Nat.reduceSub, Nat.reduceLeDiff, Nat.reduceLT, reduceIte, reduceCtorEq, Nat.reduceBEq]) | (simp (disch := first | assumption | omega | exact Seg.len _ | exact Vec.len _ | exact Leg.len _ | exact num_len _ | exact rowA_len _ | exact rowA_len | exact rowT_len _ | exact rowT_len | exact Seg.len | exact Vec.len | exact Leg.len | exact num_len | exact AV.slen _ _ | rfl) only [vP]) | (with_reducible (first | refine gsnd (fun _ => ?_) (fun _ => ?_) | refine csnd (fun _ => ?_) (fun _ => ?_) | refine gsd (fun _ => ?_) (fun _ => ?_) | refine csd (fun _ => ?_) (fun _ => ?_) | refine gsn (fun _ => ?_) (fun _ => ?_) | refine csn (fun _ => ?_) (fun _ => ?_))) | (with_reducible refine gs (fun _ => ?_) (fun _ => ?_)) | (with_reducible refine cs_ (fun _ => ?_) (fun _ => ?_)) | (with_reducible refine objQ_i (fun _ _ => ?_); (repeat (with_reducible refine imp_i (fun _ => ?_)))) | ((try with_reducible refine appK_a ?_); first | (with_reducible refine appD_F (by refine ⟨?_, ?_, ?_, ?_⟩ <;> (first | assumption | omega | exact St.has_add (by assumption) | (simp only [ins_has]; exact St.has_add (by assumption)) | (simp only [ins_has, fresh_ins, kill_ins, add_ins] at *; exact St.has_add (by assumption)) | (simp only [*, ins_has, has_full, St.has_add]; done) | (simp [-List.map_take, -List.map_drop, or_imp, forall_and, Seg.a, Vec.a, Leg.a, num, okEl, cells_agg, cells_int, cells_sl, cells_bool, AV.isCell]; done) | (simp; omega))) (fun _ _ => ?_)) | (with_reducible refine appD_V (by refine ⟨?_, ?_, ?_, ?_, ?_⟩ <;> (first | assumption | omega | exact St.has_add (by assumption) | (simp only [ins_has]; exact St.has_add (by assumption)) | (simp only [ins_has, fresh_ins, kill_ins, add_ins] at *; exact St.has_add (by assumption)) | (simp only [*, ins_has, has_full, St.has_add]; done) | (simp [-List.map_take, -List.map_drop, or_imp, forall_and, Seg.a, Vec.a, Leg.a, num, okEl, cells_agg, cells_int, cells_sl, cells_bool, AV.isCell]; done) | (simp; omega))) (fun _ _ => ?_))) | (with_reducible refine freshQ_i (fun _ _ => ?_)) | (with_reducible refine nilQ_i (fun _ _ => ?_))))
          have hd := HI.out.2 S' hE'
          exact ⟨S', (le_XS (hd b2 h2) (hd b3 h3) (hd b4 h4)).trans hle, S', .inr hE', St.le.refl _⟩
    | cons x f1 =>
      cases g1 with
      | nil =>
        have hst : L.drop k = (x.t, x.v, b) :: bothF f1 [] x.v b := by rw [HK.out, bothF]
        obtain ⟨hk, _, hdrop⟩ := drop_cons hst
        rw [XS]
        (repeat' (first | (simp (config := { maxDischargeDepth := 16 }) only [*, Seg.a, cutOk, cutE, vX, Int.reduceLE, Int.reduceLT, Int.reduceGE, Int.reduceGT, Int.reduceBEq, Int.reduceBNe, Int.reduceAdd, Int.reduceSub, Int.reduceMul, Int.reduceNeg, ↓vD, vU, VE.ev, VE.evs, retvs, tupOf, grab, vfill, vbsl, eqCells, eqCell, veqs, veqs1, vmnx, AV.isCell, AV.isUndef, Nat.reduceEqDiff, Nat.reduceAdd, Nat.reduceSub, Nat.reduceLeDiff, Nat.reduceLT, reduceIte, reduceCtorEq, Nat.reduceBEq]) | (simp (disch := first | assumption | omega | exact Seg.len _ | exact Vec.len _ | exact Leg.len _ | exact num_len _ | exact rowA_len _ | exact rowA_len | exact rowT_len _ | exact rowT_len | exact Seg.len | exact Vec.len | exact Leg.len | exact num_len | exact AV.slen _ _ | rfl) only [Seg.a, cutOk, cutE, vP]) | (with_reducible (first | refine gsnd (fun _ => ?_) (fun _ => ?_) | refine csnd (fun _ => ?_) (fun _ => ?_) | refine gsd (fun _ => ?_) (fun _ => ?_) | refine csd (fun _ => ?_) (fun _ => ?_) | refine gsn (fun _ => ?_) (fun _ => ?_) | refine csn (fun _ => ?_) (fun _ => ?_))) | (with_reducible refine gs (fun _ => ?_) (fun _ => ?_)) | (with_reducible refine cs_ (fun _ => ?_) (fun _ => ?_)) | (with_reducible refine objQ_i (fun _ _ => ?_); (repeat (with_reducible refine imp_i (fun _ => ?_)))) | ((try with_reducible refine appK_a ?_); first | (with_reducible refine appD_F (by refine ⟨?_, ?_, ?_, ?_⟩ <;> (first | assumption | omega | exact St.has_add (by assumption) | (simp only [ins_has]; exact St.has_add (by assumption)) | (simp only [ins_has, fresh_ins, kill_ins, add_ins] at *; exact St.has_add (by assumption)) | (simp only [*, ins_has, has_full, St.has_add]; done) | (simp [-List.map_take, -List.map_drop, or_imp, forall_and, Seg.a, Vec.a, Leg.a, num, okEl, cells_agg, cells_int, cells_sl, cells_bool, AV.isCell]; done) | (simp; omega))) (fun _ _ => ?_)) | (with_reducible refine appD_V (by refine ⟨?_, ?_, ?_, ?_, ?_⟩ <;> (first | assumption | omega | exact St.has_add (by assumption) | (simp only [ins_has]; exact St.has_add (by assumption)) | (simp only [ins_has, fresh_ins, kill_ins, add_ins] at *; exact St.has_add (by assumption)) | (simp only [*, ins_has, has_full, St.has_add]; done) | (simp [-List.map_take, -List.map_drop, or_imp, forall_and, Seg.a, Vec.a, Leg.a, num, okEl, cells_agg, cells_int, cells_sl, cells_bool, AV.isCell]; done) | (simp; omega))) (fun _ _ => ?_))) | (with_reducible refine freshQ_i (fun _ _ => ?_)) | (with_reducible refine nilQ_i (fun _ _ => ?_))))
        refine yieldH_then (HY.out k _ _ hst S b4 (.cells [.sl ((f1).map Seg.a) .no]) (.cells [.sl (([]).map Seg.a) s3]) (.cells [.int .i64 (x.v).m, .int .i64 (x.v).c, .int .i64 (b).m, .int .i64 (b).c]) hIk hS2 hS3 hS4 n24 n34) (by rw [XS]; exact (by simp only [St.ins]; congr 1; funext i; (repeat' split) <;> (first | rfl | contradiction | (subst_vars; contradiction) | (subst_vars; rfl)))) ?_
        rintro v s (⟨rfl, S', hI', hle⟩ | ⟨rfl, S', hE', hle⟩)
        · (repeat' (first | (simp (config := { maxDischargeDepth := 16 }) only [*, vX, Int.reduceLE, Int.reduceLT, Int.reduceGE, Int.reduceGT, Int.reduceBEq, Int.reduceBNe, Int.reduceAdd, Int.reduceSub, Int.reduceMul, Int.reduceNeg, ↓vD, vU, VE.ev, VE.evs, retvs, tupOf, grab, vfill, vbsl, eqCells, eqCell, veqs, veqs1, vmnx, AV.isCell, AV.isUndef, Nat.reduceEqDiff, Nat.reduceAdd, Nat.reduceSub, Nat.reduceLeDiff, Nat.reduceLT, reduceIte, reduceCtorEq, Nat.reduceBEq]) | (simp (disch := first | assumption | omega | exact Seg.len _ | exact Vec.len _ | exact Leg.len _ | exact num_len _ | exact rowA_len _ | exact rowA_len | exact rowT_len _ | exact rowT_len | exact Seg.len | exact Vec.len | exact Leg.len | exact num_len | exact AV.slen _ _ | rfl) only [vP]) | (with_reducible (first | refine gsnd (fun _ => ?_) (fun _ => ?_) | refine csnd (fun _ => ?_) (fun _ => ?_) | refine gsd (fun _ => ?_) (fun _ => ?_) | refine csd (fun _ => ?_) (fun _ => ?_) | refine gsn (fun _ => ?_) (fun _ => ?_) | refine csn (fun _ => ?_) (fun _ => ?_))) | (with_reducible refine gs (fun _ => ?_) (fun _ => ?_)) | (with_reducible refine cs_ (fun _ => ?_) (fun _ => ?_)) | (with_reducible refine objQ_i (fun _ _ => ?_); (repeat (with_reducible refine imp_i (fun _ => ?_)))) | ((try with_reducible refine appK_a ?_); first | (with_reducible refine appD_F (by refine ⟨?_, ?_, ?_, ?_⟩ <;> (first | assumption | omega | exact St.has_add (by assumption) | (simp only [ins_has]; exact St.has_add (by assumption)) | (simp only [ins_has, fresh_ins, kill_ins, add_ins] at *; exact St.has_add (by assumption)) | (simp only [*, ins_has, has_full, St.has_add]; done) | (simp [-List.map_take, -List.map_drop, or_imp, forall_and, Seg.a, Vec.a, Leg.a, num, okEl, cells_agg, cells_int, cells_sl, cells_bool, AV.isCell]; done) | (simp; omega))) (fun _ _ => ?_)) | (with_reducible refine appD_V (by refine ⟨?_, ?_, ?_, ?_, ?_⟩ <;> (first | assumption | omega | exact St.has_add (by assumption) | (simp only [ins_has]; exact St.has_add (by assumption)) | (simp only [ins_has, fresh_ins, kill_ins, add_ins] at *; exact St.has_add (by assumption)) | (simp only [*, ins_has, has_full, St.has_add]; done) | (simp [-List.map_take, -List.map_drop, or_imp, forall_and, Seg.a, Vec.a, Leg.a, num, okEl, cells_agg, cells_int, cells_sl, cells_bool, AV.isCell]; done) | (simp; omega))) (fun _ _ => ?_))) | (with_reducible refine freshQ_i (fun _ _ => ?_)) | (with_reducible refine nilQ_i (fun _ _ => ?_))))
          exact ⟨_, hle, ⟨k + 1, f1, [], x.v, b, S', .no, s3, rfl, hI', by omega, ⟨hdrop⟩⟩, by rw [MU.out]; simp [slen] <;> omega⟩
        · (repeat' (first | (simp (config := { maxDischargeDepth := 16 }) only [*, vX, Int.reduceLE, Int.reduceLT, Int.reduceGE, Int.reduceGT, Int.reduceBEq, Int.reduceBNe, Int.reduceAdd, Int.reduceSub, Int.reduceMul, Int.reduceNeg, ↓vD, vU, VE.ev, VE.evs, retvs, tupOf, grab, vfill, vbsl, eqCells, eqCell, veqs, veqs1, vmnx, AV.isCell, AV.isUndef, Nat.reduceEqDiff, Nat.reduceAdd, Nat.reduceSub, Nat.reduceLeDiff, Nat.reduceLT, reduceIte, reduceCtorEq, Nat.reduceBEq]) | (simp (disch := first | assumption | omega | exact Seg.len _ | exact Vec.len _ | exact Leg.len _ | exact num_len _ | exact rowA_len _ | exact rowA_len | exact rowT_len _ | exact rowT_len | exact Seg.len | exact Vec.len | exact Leg.len | exact num_len | exact AV.slen _ _ | rfl) only [vP]) | (with_reducible (first | refine gsnd (fun _ => ?_) (fun _ => ?_) | refine csnd (fun _ => ?_) (fun _ => ?_) | refine gsd (fun _ => ?_) (fun _ => ?_) | refine csd (fun _ => ?_) (fun _ => ?_) | refine gsn (fun _ => ?_) (fun _ => ?_) | refine csn (fun _ => ?_) (fun _ => ?_))) | (with_reducible refine gs (fun _ => ?_) (fun _ => ?_)) | (with_reducible refine cs_ (fun _ => ?_) (fun _ => ?_)) | (with_reducible refine objQ_i (fun _ _ => ?_); (repeat (with_reducible refine imp_i (fun _ => ?_)))) | ((try with_reducible refine appK_a ?_); first | (with_reducible refine appD_F (by refine ⟨?_, ?_, ?_, ?_⟩ <;> (first | assumption | omega | exact St.has_add (by assumption) | (simp only [ins_has]; exact St.has_add (by assumption)) | (simp only [ins_has, fresh_ins, kill_ins, add_ins] at *; exact St.has_add (by assumption)) | (simp only [*, ins_has, has_full, St.has_add]; done) | (simp [-List.map_take, -List.map_drop, or_imp, forall_and, Seg.a, Vec.a, Leg.a, num, okEl, cells_agg, cells_int, cells_sl, cells_bool, AV.isCell]; done) | (simp; omega))) (fun _ _ => ?_)) | (with_reducible refine appD_V (by refine ⟨?_, ?_, ?_, ?_, ?_⟩ <;> (first | assumption | omega | exact St.has_add (by assumption) | (simp only [ins_has]; exact St.has_add (by assumption)) | (simp only [ins_has, fresh_ins, kill_ins, add_ins] at *; exact St.has_add (by assumption)) | (simp only [*, ins_has, has_full, St.has_add]; done) | (simp [-List.map_take, -List.map_drop, or_imp, forall_and, Seg.a, Vec.a, Leg.a, num, okEl, cells_agg, cells_int, cells_sl, cells_bool, AV.isCell]; done) | (simp; omega))) (fun _ _ => ?_))) | (with_reducible refine freshQ_i (fun _ _ => ?_)) | (with_reducible refine nilQ_i (fun _ _ => ?_))))
          have hd := HI.out.2 S' hE'
          exact ⟨S', (le_XS (hd b2 h2) (hd b3 h3) (hd b4 h4)).trans hle, S', .inr hE', St.le.refl _⟩
      | cons y g1 =>
        rcases Int.lt_trichotomy x.t y.t with hlt | heq | hgt
        · have hne : ¬ y.t = x.t := by omega
          have hst : L.drop k = (x.t, x.v, b) :: bothF f1 (y :: g1) x.v b := by rw [HK.out, bothF, if_pos hlt]
          obtain ⟨hk, _, hdrop⟩ := drop_cons hst
          rw [XS]
          (repeat' (first | (simp (config := { maxDischargeDepth := 16 }) only [*, Seg.a, cutOk, cutE, vX, Int.reduceLE, Int.reduceLT, Int.reduceGE, Int.reduceGT, Int.reduceBEq, Int.reduceBNe, Int.reduceAdd, Int.reduceSub, Int.reduceMul, Int.reduceNeg, ↓vD, vU, VE.ev, VE.evs, retvs, tupOf, grab, vfill, vbsl, eqCells, eqCell, veqs, veqs1, vmnx, AV.isCell, AV.isUndef, Nat.reduceEqDiff, Nat.reduceAdd, Nat.reduceSub, Nat.reduceLeDiff, Nat.reduceLT, reduceIte, reduceCtorEq, Nat.reduceBEq]) | (simp (disch := first | assumption | omega | exact Seg.len _ | exact Vec.len _ | exact Leg.len _ | exact num_len _ | exact rowA_len _ | exact rowA_len | exact rowT_len _ | exact rowT_len | exact Seg.len | exact Vec.len | exact Leg.len | exact num_len | exact AV.slen _ _ | rfl) only [Seg.a, cutOk, cutE, vP]) | (with_reducible (first | refine gsnd (fun _ => ?_) (fun _ => ?_) | refine csnd (fun _ => ?_) (fun _ => ?_) | refine gsd (fun _ => ?_) (fun _ => ?_) | refine csd (fun _ => ?_) (fun _ => ?_) | refine gsn (fun _ => ?_) (fun _ => ?_) | refine csn (fun _ => ?_) (fun _ => ?_))) | (with_reducible refine gs (fun _ => ?_) (fun _ => ?_)) | (with_reducible refine cs_ (fun _ => ?_) (fun _ => ?_)) | (with_reducible refine objQ_i (fun _ _ => ?_); (repeat (with_reducible refine imp_i (fun _ => ?_)))) | ((try with_reducible refine appK_a ?_); first | (with_reducible refine appD_F (by refine ⟨?_, ?_, ?_, ?_⟩ <;> (first | assumption | omega | exact St.has_add (by assumption) | (simp only [ins_has]; exact St.has_add (by assumption)) | (simp only [ins_has, fresh_ins, kill_ins, add_ins] at *; exact St.has_add (by assumption)) | (simp only [*, ins_has, has_full, St.has_add]; done) | (simp [-List.map_take, -List.map_drop, or_imp, forall_and, Seg.a, Vec.a, Leg.a, num, okEl, cells_agg, cells_int, cells_sl, cells_bool, AV.isCell]; done) | (simp; omega))) (fun _ _ => ?_)) | (with_reducible refine appD_V (by refine ⟨?_, ?_, ?_, ?_, ?_⟩ <;> (first | assumption | omega | exact St.has_add (by assumption) | (simp only [ins_has]; exact St.has_add (by assumption)) | (simp only [ins_has, fresh_ins, kill_ins, add_ins] at *; exact St.has_add (by assumption)) | (simp only [*, ins_has, has_full, St.has_add]; done) | (simp [-List.map_take, -List.map_drop, or_imp, forall_and, Seg.a, Vec.a, Leg.a, num, okEl, cells_agg, cells_int, cells_sl, cells_bool, AV.isCell]; done) | (simp; omega))) (fun _ _ => ?_))) | (with_reducible refine freshQ_i (fun _ _ => ?_)) | (with_reducible refine nilQ_i (fun _ _ => ?_))))
          refine yieldH_then (HY.out k _ _ hst S b4 (.cells [.sl ((f1).map Seg.a) .no]) (.cells [.sl (((y :: g1)).map Seg.a) s3]) (.cells [.int .i64 (x.v).m, .int .i64 (x.v).c, .int .i64 (b).m, .int .i64 (b).c]) hIk hS2 hS3 hS4 n24 n34) (by rw [XS]; exact (by simp only [St.ins]; congr 1; funext i; (repeat' split) <;> (first | rfl | contradiction | (subst_vars; contradiction) | (subst_vars; rfl)))) ?_
          rintro v s (⟨rfl, S', hI', hle⟩ | ⟨rfl, S', hE', hle⟩)
          · (repeat' (first | (simp (config := { maxDischargeDepth := 16 }) only [*, vX, Int.reduceLE, Int.reduceLT, Int.reduceGE, Int.reduceGT, Int.reduceBEq, Int.reduceBNe, Int.reduceAdd, Int.reduceSub, Int.reduceMul, Int.reduceNeg, ↓vD, vU, VE.ev, VE.evs, retvs, tupOf, grab, vfill, vbsl, eqCells, eqCell, veqs, veqs1, vmnx, AV.isCell, AV.isUndef, Nat.reduceEqDiff, Nat.reduceAdd, Nat.reduceSub, Nat.reduceLeDiff, Nat.reduceLT, reduceIte, reduceCtorEq, Nat.reduceBEq]) | (simp (disch := first | assumption | omega | exact Seg.len _ | exact Vec.len _ | exact Leg.len _ | exact num_len _ | exact rowA_len _ | exact rowA_len | exact rowT_len _ | exact rowT_len | exact Seg.len | exact Vec.len | exact Leg.len | exact num_len | exact AV.slen _ _ | rfl) only [vP]) | (with_reducible (first | refine gsnd (fun _ => ?_) (fun _ => ?_) | refine csnd (fun _ => ?_) (fun _ => ?_) | refine gsd (fun _ => ?_) (fun _ => ?_) | refine csd (fun _ => ?_) (fun _ => ?_) | refine gsn (fun _ => ?_) (fun _ => ?_) | refine csn (fun _ => ?_) (fun _ => ?_))) | (with_reducible refine gs (fun _ => ?_) (fun _ => ?_)) | (with_reducible refine cs_ (fun _ => ?_) (fun _ => ?_)) | (with_reducible refine objQ_i (fun _ _ => ?_); (repeat (with_reducible refine imp_i (fun _ => ?_)))) | ((try with_reducible refine appK_a ?_); first | (with_reducible refine appD_F (by refine ⟨?_, ?_, ?_, ?_⟩ <;> (first | assumption | omega | exact St.has_add (by assumption) | (simp only [ins_has]; exact St.has_add (by assumption)) | (simp only [ins_has, fresh_ins, kill_ins, add_ins] at *; exact St.has_add (by assumption)) | (simp only [*, ins_has, has_full, St.has_add]; done) | (simp [-List.map_take, -List.map_drop, or_imp, forall_and, Seg.a, Vec.a, Leg.a, num, okEl, cells_agg, cells_int, cells_sl, cells_bool, AV.isCell]; done) | (simp; omega))) (fun _ _ => ?_)) | (with_reducible refine appD_V (by refine ⟨?_, ?_, ?_, ?_, ?_⟩ <;> (first | assumption | omega | exact St.has_add (by assumption) | (simp only [ins_has]; exact St.has_add (by assumption)) | (simp only [ins_has, fresh_ins, kill_ins, add_ins] at *; exact St.has_add (by assumption)) | (simp only [*, ins_has, has_full, St.has_add]; done) | (simp [-List.map_take, -List.map_drop, or_imp, forall_and, Seg.a, Vec.a, Leg.a, num, okEl, cells_agg, cells_int, cells_sl, cells_bool, AV.isCell]; done) | (simp; omega))) (fun _ _ => ?_))) | (with_reducible refine freshQ_i (fun _ _ => ?_)) | (with_reducible refine nilQ_i (fun _ _ => ?_))))
            exact ⟨_, hle, ⟨k + 1, f1, (y :: g1), x.v, b, S', .no, s3, rfl, hI', by omega, ⟨hdrop⟩⟩, by rw [MU.out]; simp [slen] <;> omega⟩
          · (repeat' (first | (simp (config := { maxDischargeDepth := 16 }) only [*, vX, Int.reduceLE, Int.reduceLT, Int.reduceGE, Int.reduceGT, Int.reduceBEq, Int.reduceBNe, Int.reduceAdd, Int.reduceSub, Int.reduceMul, Int.reduceNeg, ↓vD, vU, VE.ev, VE.evs, retvs, tupOf, grab, vfill, vbsl, eqCells, eqCell, veqs, veqs1, vmnx, AV.isCell, AV.isUndef, Nat.reduceEqDiff, Nat.reduceAdd, Nat.reduceSub, Nat.reduceLeDiff, Nat.reduceLT, reduceIte, reduceCtorEq, Nat.reduceBEq]) | (simp (disch := first | assumption | omega | exact Seg.len _ | exact Vec.len _ | exact Leg.len _ | exact num_len _ | exact rowA_len _ | exact rowA_len | exact rowT_len _ | exact rowT_len | exact Seg.len | exact Vec.len | exact Leg.len | exact num_len | exact AV.slen _ _ | rfl) only [vP]) | (with_reducible (first | refine gsnd (fun _ => ?_) (fun _ => ?_) | refine csnd (fun _ => ?_) (fun _ => ?_) | refine gsd (fun _ => ?_) (fun _ => ?_) | refine csd (fun _ => ?_) (fun _ => ?_) | refine gsn (fun _ => ?_) (fun _ => ?_) | refine csn (fun _ => ?_) (fun _ => ?_))) | (with_reducible refine gs (fun _ => ?_) (fun _ => ?_)) | (with_reducible refine cs_ (fun _ => ?_) (fun _ => ?_)) | (with_reducible refine objQ_i (fun _ _ => ?_); (repeat (with_reducible refine imp_i (fun _ => ?_)))) | ((try with_reducible refine appK_a ?_); first | (with_reducible refine appD_F (by refine ⟨?_, ?_, ?_, ?_⟩ <;> (first | assumption | omega | exact St.has_add (by assumption) | (simp only [ins_has]; exact St.has_add (by assumption)) | (simp only [ins_has, fresh_ins, kill_ins, add_ins] at *; exact St.has_add (by assumption)) | (simp only [*, ins_has, has_full, St.has_add]; done) | (simp [-List.map_take, -List.map_drop, or_imp, forall_and, Seg.a, Vec.a, Leg.a, num, okEl, cells_agg, cells_int, cells_sl, cells_bool, AV.isCell]; done) | (simp; omega))) (fun _ _ => ?_)) | (with_reducible refine appD_V (by refine ⟨?_, ?_, ?_, ?_, ?_⟩ <;> (first | assumption | omega | exact St.has_add (by assumption) | (simp only [ins_has]; exact St.has_add (by assumption)) | (simp only [ins_has, fresh_ins, kill_ins, add_ins] at *; exact St.has_add (by assumption)) | (simp only [*, ins_has, has_full, St.has_add]; done) | (simp [-List.map_take, -List.map_drop, or_imp, forall_and, Seg.a, Vec.a, Leg.a, num, okEl, cells_agg, cells_int, cells_sl, cells_bool, AV.isCell]; done) | (simp; omega))) (fun _ _ => ?_))) | (with_reducible refine freshQ_i (fun _ _ => ?_)) | (with_reducible refine nilQ_i (fun _ _ => ?_))))
            have hd := HI.out.2 S' hE'
            exact ⟨S', (le_XS (hd b2 h2) (hd b3 h3) (hd b4 h4)).trans hle, S', .inr hE', St.le.refl _⟩
        · have hst : L.drop k = (y.t, x.v, y.v) :: bothF f1 g1 x.v y.v := by rw [HK.out, bothF, if_neg (by omega), if_neg (by omega), heq]
          obtain ⟨hk, _, hdrop⟩ := drop_cons hst
          rw [XS]
          (repeat' (first | (simp (config := { maxDischargeDepth := 16 }) only [*, Seg.a, cutOk, cutE, vX, Int.reduceLE, Int.reduceLT, Int.reduceGE, Int.reduceGT, Int.reduceBEq, Int.reduceBNe, Int.reduceAdd, Int.reduceSub, Int.reduceMul, Int.reduceNeg, ↓vD, vU, VE.ev, VE.evs, retvs, tupOf, grab, vfill, vbsl, eqCells, eqCell, veqs, veqs1, vmnx, AV.isCell, AV.isUndef, Nat.reduceEqDiff, Nat.reduceAdd, Nat.reduceSub, Nat.reduceLeDiff, Nat.reduceLT, reduceIte, reduceCtorEq, Nat.reduceBEq]) | (simp (disch := first | assumption | omega | exact Seg.len _ | exact Vec.len _ | exact Leg.len _ | exact num_len _ | exact rowA_len _ | exact rowA_len | exact rowT_len _ | exact rowT_len | exact Seg.len | exact Vec.len | exact Leg.len | exact num_len | exact AV.slen _ _ | rfl) only [Seg.a, cutOk, cutE, vP]) | (with_reducible (first | refine gsnd (fun _ => ?_) (fun _ => ?_) | refine csnd (fun _ => ?_) (fun _ => ?_) | refine gsd (fun _ => ?_) (fun _ => ?_) | refine csd (fun _ => ?_) (fun _ => ?_) | refine gsn (fun _ => ?_) (fun _ => ?_) | refine csn (fun _ => ?_) (fun _ => ?_))) | (with_reducible refine gs (fun _ => ?_) (fun _ => ?_)) | (with_reducible refine cs_ (fun _ => ?_) (fun _ => ?_)) | (with_reducible refine objQ_i (fun _ _ => ?_); (repeat (with_reducible refine imp_i (fun _ => ?_)))) | ((try with_reducible refine appK_a ?_); first | (with_reducible refine appD_F (by refine ⟨?_, ?_, ?_, ?_⟩ <;> (first | assumption | omega | exact St.has_add (by assumption) | (simp only [ins_has]; exact St.has_add (by assumption)) | (simp only [ins_has, fresh_ins, kill_ins, add_ins] at *; exact St.has_add (by assumption)) | (simp only [*, ins_has, has_full, St.has_add]; done) | (simp [-List.map_take, -List.map_drop, or_imp, forall_and, Seg.a, Vec.a, Leg.a, num, okEl, cells_agg, cells_int, cells_sl, cells_bool, AV.isCell]; done) | (simp; omega))) (fun _ _ => ?_)) | (with_reducible refine appD_V (by refine ⟨?_, ?_, ?_, ?_, ?_⟩ <;> (first | assumption | omega | exact St.has_add (by assumption) | (simp only [ins_has]; exact St.has_add (by assumption)) | (simp only [ins_has, fresh_ins, kill_ins, add_ins] at *; exact St.has_add (by assumption)) | (simp only [*, ins_has, has_full, St.has_add]; done) | (simp [-List.map_take, -List.map_drop, or_imp, forall_and, Seg.a, Vec.a, Leg.a, num, okEl, cells_agg, cells_int, cells_sl, cells_bool, AV.isCell]; done) | (simp; omega))) (fun _ _ => ?_))) | (with_reducible refine freshQ_i (fun _ _ => ?_)) | (with_reducible refine nilQ_i (fun _ _ => ?_))))
          refine yieldH_then (HY.out k _ _ hst S b4 (.cells [.sl ((f1).map Seg.a) .no]) (.cells [.sl ((g1).map Seg.a) .no]) (.cells [.int .i64 (x.v).m, .int .i64 (x.v).c, .int .i64 (y.v).m, .int .i64 (y.v).c]) hIk hS2 hS3 hS4 n24 n34) (by rw [XS]; exact (by simp only [St.ins]; congr 1; funext i; (repeat' split) <;> (first | rfl | contradiction | (subst_vars; contradiction) | (subst_vars; rfl)))) ?_
          rintro v s (⟨rfl, S', hI', hle⟩ | ⟨rfl, S', hE', hle⟩)
          · (repeat' (first | (simp (config := { maxDischargeDepth := 16 }) only [*, vX, Int.reduceLE, Int.reduceLT, Int.reduceGE, Int.reduceGT, Int.reduceBEq, Int.reduceBNe, Int.reduceAdd, Int.reduceSub, Int.reduceMul, Int.reduceNeg, ↓vD, vU, VE.ev, VE.evs, retvs, tupOf, grab, vfill, vbsl, eqCells, eqCell, veqs, veqs1, vmnx, AV.isCell, AV.isUndef, Nat.reduceEqDiff, Nat.reduceAdd, Nat.reduceSub, Nat.reduceLeDiff, Nat.reduceLT, reduceIte, reduceCtorEq, Nat.reduceBEq]) | (simp (disch := first | assumption | omega | exact Seg.len _ | exact Vec.len _ | exact Leg.len _ | exact num_len _ | exact rowA_len _ | exact rowA_len | exact rowT_len _ | exact rowT_len | exact Seg.len | exact Vec.len | exact Leg.len | exact num_len | exact AV.slen _ _ | rfl) only [vP]) | (with_reducible (first | refine gsnd (fun _ => ?_) (fun _ => ?_) | refine csnd (fun _ => ?_) (fun _ => ?_) | refine gsd (fun _ => ?_) (fun _ => ?_) | refine csd (fun _ => ?_) (fun _ => ?_) | refine gsn (fun _ => ?_) (fun _ => ?_) | refine csn (fun _ => ?_) (fun _ => ?_))) | (with_reducible refine gs (fun _ => ?_) (fun _ => ?_)) | (with_reducible refine cs_ (fun _ => ?_) (fun _ => ?_)) | (with_reducible refine objQ_i (fun _ _ => ?_); (repeat (with_reducible refine imp_i (fun _ => ?_)))) | ((try with_reducible refine appK_a ?_); first | (with_reducible refine appD_F (by refine ⟨?_, ?_, ?_, ?_⟩ <;> (first | assumption | omega | exact St.has_add (by assumption) | (simp only [ins_has]; exact St.has_add (by assumption)) | (simp only [ins_has, fresh_ins, kill_ins, add_ins] at *; exact St.has_add (by assumption)) | (simp only [*, ins_has, has_full, St.has_add]; done) | (simp [-List.map_take, -List.map_drop, or_imp, forall_and, Seg.a, Vec.a, Leg.a, num, okEl, cells_agg, cells_int, cells_sl, cells_bool, AV.isCell]; done) | (simp; omega))) (fun _ _ => ?_)) | (with_reducible refine appD_V (by refine ⟨?_, ?_, ?_, ?_, ?_⟩ <;> (first | assumption | omega | exact St.has_add (by assumption) | (simp only [ins_has]; exact St.has_add (by assumption)) | (simp only [ins_has, fresh_ins, kill_ins, add_ins] at *; exact St.has_add (by assumption)) | (simp only [*, ins_has, has_full, St.has_add]; done) | (simp [-List.map_take, -List.map_drop, or_imp, forall_and, Seg.a, Vec.a, Leg.a, num, okEl, cells_agg, cells_int, cells_sl, cells_bool, AV.isCell]; done) | (simp; omega))) (fun _ _ => ?_))) | (with_reducible refine freshQ_i (fun _ _ => ?_)) | (with_reducible refine nilQ_i (fun _ _ => ?_))))
            exact ⟨_, hle, ⟨k + 1, f1, g1, x.v, y.v, S', .no, .no, rfl, hI', by omega, ⟨hdrop⟩⟩, by rw [MU.out]; simp [slen] <;> omega⟩
          · (repeat' (first | (simp (config := { maxDischargeDepth := 16 }) only [*, vX, Int.reduceLE, Int.reduceLT, Int.reduceGE, Int.reduceGT, Int.reduceBEq, Int.reduceBNe, Int.reduceAdd, Int.reduceSub, Int.reduceMul, Int.reduceNeg, ↓vD, vU, VE.ev, VE.evs, retvs, tupOf, grab, vfill, vbsl, eqCells, eqCell, veqs, veqs1, vmnx, AV.isCell, AV.isUndef, Nat.reduceEqDiff, Nat.reduceAdd, Nat.reduceSub, Nat.reduceLeDiff, Nat.reduceLT, reduceIte, reduceCtorEq, Nat.reduceBEq]) | (simp (disch := first | assumption | omega | exact Seg.len _ | exact Vec.len _ | exact Leg.len _ | exact num_len _ | exact rowA_len _ | exact rowA_len | exact rowT_len _ | exact rowT_len | exact Seg.len | exact Vec.len | exact Leg.len | exact num_len | exact AV.slen _ _ | rfl) only [vP]) | (with_reducible (first | refine gsnd (fun _ => ?_) (fun _ => ?_) | refine csnd (fun _ => ?_) (fun _ => ?_) | refine gsd (fun _ => ?_) (fun _ => ?_) | refine csd (fun _ => ?_) (fun _ => ?_) | refine gsn (fun _ => ?_) (fun _ => ?_) | refine csn (fun _ => ?_) (fun _ => ?_))) | (with_reducible refine gs (fun _ => ?_) (fun _ => ?_)) | (with_reducible refine cs_ (fun _ => ?_) (fun _ => ?_)) | (with_reducible refine objQ_i (fun _ _ => ?_); (repeat (with_reducible refine imp_i (fun _ => ?_)))) | ((try with_reducible refine appK_a ?_); first | (with_reducible refine appD_F (by refine ⟨?_, ?_, ?_, ?_⟩ <;> (first | assumption | omega | exact St.has_add (by assumption) | (simp only [ins_has]; exact St.has_add (by assumption)) | (simp only [ins_has, fresh_ins, kill_ins, add_ins] at *; exact St.has_add (by assumption)) | (simp only [*, ins_has, has_full, St.has_add]; done) | (simp [-List.map_take, -List.map_drop, or_imp, forall_and, Seg.a, Vec.a, Leg.a, num, okEl, cells_agg, cells_int, cells_sl, cells_bool, AV.isCell]; done) | (simp; omega))) (fun _ _ => ?_)) | (with_reducible refine appD_V (by refine ⟨?_, ?_, ?_, ?_, ?_⟩ <;> (first | assumption | omega | exact St.has_add (by assumption) | (simp only [ins_has]; exact St.has_add (by assumption)) | (simp only [ins_has, fresh_ins, kill_ins, add_ins] at *; exact St.has_add (by assumption)) | (simp only [*, ins_has, has_full, St.has_add]; done) | (simp [-List.map_take, -List.map_drop, or_imp, forall_and, Seg.a, Vec.a, Leg.a, num, okEl, cells_agg, cells_int, cells_sl, cells_bool, AV.isCell]; done) | (simp; omega))) (fun _ _ => ?_))) | (with_reducible refine freshQ_i (fun _ _ => ?_)) | (with_reducible refine nilQ_i (fun _ _ => ?_))))
            have hd := HI.out.2 S' hE'
            exact ⟨S', (le_XS (hd b2 h2) (hd b3 h3) (hd b4 h4)).trans hle, S', .inr hE', St.le.refl _⟩
        · have hne : ¬ x.t = y.t := by omega
          have hst : L.drop k = (y.t, a, y.v) :: bothF (x :: f1) g1 a y.v := by rw [HK.out, bothF, if_neg (by omega), if_pos hgt]
          obtain ⟨hk, _, hdrop⟩ := drop_cons hst
          rw [XS]
          (repeat' (first | (simp (config := { maxDischargeDepth := 16 }) only [*, Seg.a, cutOk, cutE, vX, Int.reduceLE, Int.reduceLT, Int.reduceGE, Int.reduceGT, Int.reduceBEq, Int.reduceBNe, Int.reduceAdd, Int.reduceSub, Int.reduceMul, Int.reduceNeg, ↓vD, vU, VE.ev, VE.evs, retvs, tupOf, grab, vfill, vbsl, eqCells, eqCell, veqs, veqs1, vmnx, AV.isCell, AV.isUndef, Nat.reduceEqDiff, Nat.reduceAdd, Nat.reduceSub, Nat.reduceLeDiff, Nat.reduceLT, reduceIte, reduceCtorEq, Nat.reduceBEq]) | (simp (disch := first | assumption | omega | exact Seg.len _ | exact Vec.len _ | exact Leg.len _ | exact num_len _ | exact rowA_len _ | exact rowA_len | exact rowT_len _ | exact rowT_len | exact Seg.len | exact Vec.len | exact Leg.len | exact num_len | exact AV.slen _ _ | rfl) only [Seg.a, cutOk, cutE, vP]) | (with_reducible (first | refine gsnd (fun _ => ?_) (fun _ => ?_) | refine csnd (fun _ => ?_) (fun _ => ?_) | refine gsd (fun _ => ?_) (fun _ => ?_) | refine csd (fun _ => ?_) (fun _ => ?_) | refine gsn (fun _ => ?_) (fun _ => ?_) | refine csn (fun _ => ?_) (fun _ => ?_))) | (with_reducible refine gs (fun _ => ?_) (fun _ => ?_)) | (with_reducible refine cs_ (fun _ => ?_) (fun _ => ?_)) | (with_reducible refine objQ_i (fun _ _ => ?_); (repeat (with_reducible refine imp_i (fun _ => ?_)))) | ((try with_reducible refine appK_a ?_); first | (with_reducible refine appD_F (by refine ⟨?_, ?_, ?_, ?_⟩ <;> (first | assumption | omega | exact St.has_add (by assumption) | (simp only [ins_has]; exact St.has_add (by assumption)) | (simp only [ins_has, fresh_ins, kill_ins, add_ins] at *; exact St.has_add (by assumption)) | (simp only [*, ins_has, has_full, St.has_add]; done) | (simp [-List.map_take, -List.map_drop, or_imp, forall_and, Seg.a, Vec.a, Leg.a, num, okEl, cells_agg, cells_int, cells_sl, cells_bool, AV.isCell]; done) | (simp; omega))) (fun _ _ => ?_)) | (with_reducible refine appD_V (by refine ⟨?_, ?_, ?_, ?_, ?_⟩ <;> (first | assumption | omega | exact St.has_add (by assumption) | (simp only [ins_has]; exact St.has_add (by assumption)) | (simp only [ins_has, fresh_ins, kill_ins, add_ins] at *; exact St.has_add (by assumption)) | (simp only [*, ins_has, has_full, St.has_add]; done) | (simp [-List.map_take, -List.map_drop, or_imp, forall_and, Seg.a, Vec.a, Leg.a, num, okEl, cells_agg, cells_int, cells_sl, cells_bool, AV.isCell]; done) | (simp; omega))) (fun _ _ => ?_))) | (with_reducible refine freshQ_i (fun _ _ => ?_)) | (with_reducible refine nilQ_i (fun _ _ => ?_))))
          refine yieldH_then (HY.out k _ _ hst S b4 (.cells [.sl (((x :: f1)).map Seg.a) s2]) (.cells [.sl ((g1).map Seg.a) .no]) (.cells [.int .i64 (a).m, .int .i64 (a).c, .int .i64 (y.v).m, .int .i64 (y.v).c]) hIk hS2 hS3 hS4 n24 n34) (by rw [XS]; exact (by simp only [St.ins]; congr 1; funext i; (repeat' split) <;> (first | rfl | contradiction | (subst_vars; contradiction) | (subst_vars; rfl)))) ?_
          rintro v s (⟨rfl, S', hI', hle⟩ | ⟨rfl, S', hE', hle⟩)
          · (repeat' (first | (simp (config := { maxDischargeDepth := 16 }) only [*, vX, Int.reduceLE, Int.reduceLT, Int.reduceGE, Int.reduceGT, Int.reduceBEq, Int.reduceBNe, Int.reduceAdd, Int.reduceSub, Int.reduceMul, Int.reduceNeg, ↓vD, vU, VE.ev, VE.evs, retvs, tupOf, grab, vfill, vbsl, eqCells, eqCell, veqs, veqs1, vmnx, AV.isCell, AV.isUndef, Nat.reduceEqDiff, Nat.reduceAdd, Nat.reduceSub, Nat.reduceLeDiff, Nat.reduceLT, reduceIte, reduceCtorEq, Nat.reduceBEq]) | (simp (disch := first | assumption | omega | exact Seg.len _ | exact Vec.len _ | exact Leg.len _ | exact num_len _ | exact rowA_len _ | exact rowA_len | exact rowT_len _ | exact rowT_len | exact Seg.len | exact Vec.len | exact Leg.len | exact num_len | exact AV.slen _ _ | rfl) only [vP]) | (with_reducible (first | refine gsnd (fun _ => ?_) (fun _ => ?_) | refine csnd (fun _ => ?_) (fun _ => ?_) | refine gsd (fun _ => ?_) (fun _ => ?_) | refine csd (fun _ => ?_) (fun _ => ?_) | refine gsn (fun _ => ?_) (fun _ => ?_) | refine csn (fun _ => ?_) (fun _ => ?_))) | (with_reducible refine gs (fun _ => ?_) (fun _ => ?_)) | (with_reducible refine cs_ (fun _ => ?_) (fun _ => ?_)) | (with_reducible refine objQ_i (fun _ _ => ?_); (repeat (with_reducible refine imp_i (fun _ => ?_)))) | ((try with_reducible refine appK_a ?_); first | (with_reducible refine appD_F (by refine ⟨?_, ?_, ?_, ?_⟩ <;> (first | assumption | omega | exact St.has_add (by assumption) | (simp only [ins_has]; exact St.has_add (by assumption)) | (simp only [ins_has, fresh_ins, kill_ins, add_ins] at *; exact St.has_add (by assumption)) | (simp only [*, ins_has, has_full, St.has_add]; done) | (simp [-List.map_take, -List.map_drop, or_imp, forall_and, Seg.a, Vec.a, Leg.a, num, okEl, cells_agg, cells_int, cells_sl, cells_bool, AV.isCell]; done) | (simp; omega))) (fun _ _ => ?_)) | (with_reducible refine appD_V (by refine ⟨?_, ?_, ?_, ?_, ?_⟩ <;> (first | assumption | omega | exact St.has_add (by assumption) | (simp only [ins_has]; exact St.has_add (by assumption)) | (simp only [ins_has, fresh_ins, kill_ins, add_ins] at *; exact St.has_add (by assumption)) | (simp only [*, ins_has, has_full, St.has_add]; done) | (simp [-List.map_take, -List.map_drop, or_imp, forall_and, Seg.a, Vec.a, Leg.a, num, okEl, cells_agg, cells_int, cells_sl, cells_bool, AV.isCell]; done) | (simp; omega))) (fun _ _ => ?_))) | (with_reducible refine freshQ_i (fun _ _ => ?_)) | (with_reducible refine nilQ_i (fun _ _ => ?_))))
            exact ⟨_, hle, ⟨k + 1, (x :: f1), g1, a, y.v, S', s2, .no, rfl, hI', by omega, ⟨hdrop⟩⟩, by rw [MU.out]; simp [slen] <;> omega⟩
          · (repeat' (first | (simp (config := { maxDischargeDepth := 16 }) only [*, vX, Int.reduceLE, Int.reduceLT, Int.reduceGE, Int.reduceGT, Int.reduceBEq, Int.reduceBNe, Int.reduceAdd, Int.reduceSub, Int.reduceMul, Int.reduceNeg, ↓vD, vU, VE.ev, VE.evs, retvs, tupOf, grab, vfill, vbsl, eqCells, eqCell, veqs, veqs1, vmnx, AV.isCell, AV.isUndef, Nat.reduceEqDiff, Nat.reduceAdd, Nat.reduceSub, Nat.reduceLeDiff, Nat.reduceLT, reduceIte, reduceCtorEq, Nat.reduceBEq]) | (simp (disch := first | assumption | omega | exact Seg.len _ | exact Vec.len _ | exact Leg.len _ | exact num_len _ | exact rowA_len _ | exact rowA_len | exact rowT_len _ | exact rowT_len | exact Seg.len | exact Vec.len | exact Leg.len | exact num_len | exact AV.slen _ _ | rfl) only [vP]) | (with_reducible (first | refine gsnd (fun _ => ?_) (fun _ => ?_) | refine csnd (fun _ => ?_) (fun _ => ?_) | refine gsd (fun _ => ?_) (fun _ => ?_) | refine csd (fun _ => ?_) (fun _ => ?_) | refine gsn (fun _ => ?_) (fun _ => ?_) | refine csn (fun _ => ?_) (fun _ => ?_))) | (with_reducible refine gs (fun _ => ?_) (fun _ => ?_)) | (with_reducible refine cs_ (fun _ => ?_) (fun _ => ?_)) | (with_reducible refine objQ_i (fun _ _ => ?_); (repeat (with_reducible refine imp_i (fun _ => ?_)))) | ((try with_reducible refine appK_a ?_); first | (with_reducible refine appD_F (by refine ⟨?_, ?_, ?_, ?_⟩ <;> (first | assumption | omega | exact St.has_add (by assumption) | (simp only [ins_has]; exact St.has_add (by assumption)) | (simp only [ins_has, fresh_ins, kill_ins, add_ins] at *; exact St.has_add (by assumption)) | (simp only [*, ins_has, has_full, St.has_add]; done) | (simp [-List.map_take, -List.map_drop, or_imp, forall_and, Seg.a, Vec.a, Leg.a, num, okEl, cells_agg, cells_int, cells_sl, cells_bool, AV.isCell]; done) | (simp; omega))) (fun _ _ => ?_)) | (with_reducible refine appD_V (by refine ⟨?_, ?_, ?_, ?_, ?_⟩ <;> (first | assumption | omega | exact St.has_add (by assumption) | (simp only [ins_has]; exact St.has_add (by assumption)) | (simp only [ins_has, fresh_ins, kill_ins, add_ins] at *; exact St.has_add (by assumption)) | (simp only [*, ins_has, has_full, St.has_add]; done) | (simp [-List.map_take, -List.map_drop, or_imp, forall_and, Seg.a, Vec.a, Leg.a, num, okEl, cells_agg, cells_int, cells_sl, cells_bool, AV.isCell]; done) | (simp; omega))) (fun _ _ => ?_))) | (with_reducible refine freshQ_i (fun _ _ => ?_)) | (with_reducible refine nilQ_i (fun _ _ => ?_))))
            have hd := HI.out.2 S' hE'
            exact ⟨S', (le_XS (hd b2 h2) (hd b3 h3) (hd b4 h4)).trans hle, S', .inr hE', St.le.refl _⟩
end Go.Proofs.Ytddbnncimggogaa.V
end
section
set_option linter.unusedSimpArgs false
set_option linter.unusedVariables false
/- The compiled functions of the package liveryref02 (printed by Print.lean of this work). -/
namespace Go.Proofs.Ytddbnncimggogaa.V
open Go Go.Proofs
end Go.Proofs.Ytddbnncimggogaa.V
end
section
set_option linter.unusedSimpArgs false
set_option linter.unusedVariables false
/- What the packages liveryref01 and liveryref02 compute. -/
namespace Go.Proofs.Ytddbnncimggogaa.V
open Go Go.Proofs
set_option maxRecDepth 100000
def toldF (v : Vec) : Vec × Int := if mayV v then (v, 0) else (v0, 10)
def addR (a b : Vec) : Vec × Int := if mayV a && mayV b then toldF ⟨wr (a.m + b.m), wr (a.c + b.c)⟩ else (v0, 10)
def subR (a b : Vec) : Vec × Int := if mayV b then addR a ⟨wr (-b.m), wr (-b.c)⟩ else (v0, 10)
/-- The value behind a row. -/
def lastW (f : List Seg) : Vec := (f.getLast?.map (·.v)).getD v0
def withF (f : List Seg) (t : Int) (v : Vec) : List Seg := if v = lastW f then f else f ++ [⟨t, v⟩]
theorem withF_len (f : List Seg) (t : Int) (v : Vec) : (withF f t v).length ≤ f.length + 1 := by unfold withF; split <;> simp
end Go.Proofs.Ytddbnncimggogaa.V
end
section
set_option linter.unusedSimpArgs false
set_option linter.unusedVariables false
/- What the package liveryref02 computes: Times, Of, Same, May, Box. -/
namespace Go.Proofs.Ytddbnncimggogaa.V
open Go Go.Proofs
set_option maxRecDepth 100000
set_option maxHeartbeats 4000000
def cntT : List Int → Int → Nat
  | [], _ => 0
  | y :: l, x => if y < x then cntT l x + 1 else 0
def insT (out : List Int) (x : Int) : List Int := if out[cntT out x]? = some x then out else out.take (cntT out x) ++ x :: out.drop (cntT out x)
def timesF (l : List Int) : List Int := l.foldl insT []
theorem cntT_le : ∀ (l : List Int) (x : Int), cntT l x ≤ l.length
  | [], _ => Nat.le_refl _
  | y :: l, x => by unfold cntT; split; have := cntT_le l x; simp; omega; simp
theorem insT_len (out : List Int) (x : Int) : (insT out x).length ≤ out.length + 1 := by
  have := cntT_le out x
  unfold insT; split
  · omega
  · simp; omega
theorem foldl_len : ∀ (l acc : List Int), (l.foldl insT acc).length ≤ acc.length + l.length
  | [], acc => Nat.le_refl _
  | x :: l, acc => by have := foldl_len l (insT acc x); have := insT_len acc x; simp; omega
theorem timesF_len (l : List Int) : (timesF l).length ≤ l.length := by have := foldl_len l []; simpa [timesF] using this
end Go.Proofs.Ytddbnncimggogaa.V
end
section
set_option linter.unusedSimpArgs false
set_option linter.unusedVariables false
/- The compiled functions of the package liveryref03 (printed by Print.lean of this work). -/
namespace Go.Proofs.Ytddbnncimggogaa.V
open Go Go.Proofs
end Go.Proofs.Ytddbnncimggogaa.V
end
section
set_option linter.unusedSimpArgs false
set_option linter.unusedVariables false
/- liveryref02.Box; the package liveryref03. -/
namespace Go.Proofs.Ytddbnncimggogaa.V
open Go Go.Proofs
set_option maxRecDepth 100000
set_option maxHeartbeats 4000000
def minV (a b : Vec) : Vec := ⟨min a.m b.m, min a.c b.c⟩
def maxV (a b : Vec) : Vec := ⟨max a.m b.m, max a.c b.c⟩
def oneR (w : Int) (a b : Vec) : Vec × Int := if w = 0 then addR a b else if w = 1 then subR a b else if w = 2 then (minV a b, 0) else (maxV a b, 0)
def doF (w : Int) (f g : List Seg) : List Int → List Seg → List Seg × Int
  | [], acc => (acc, 0)
  | t :: ts, acc => if (oneR w (atF f t) (atF g t)).2 = 0 then doF w f g ts (withF acc t (oneR w (atF f t) (atF g t)).1) else ([], 10)
def doR (w : Int) (f g : List Seg) : List Seg × Int := if mayF f && mayF g then doF w f g (timesF (f.map (·.t) ++ g.map (·.t))) [] else ([], 5)
theorem doF_len (w : Int) (f g : List Seg) : ∀ (ts : List Int) (acc : List Seg), (doF w f g ts acc).1.length ≤ acc.length + ts.length
  | [], acc => Nat.le_refl _
  | t :: ts, acc => by
    unfold doF
    split
    · have := doF_len w f g ts (withF acc t (oneR w (atF f t) (atF g t)).1)
      have := withF_len acc t (oneR w (atF f t) (atF g t)).1
      simp; omega
    · simp
theorem doR_len (w : Int) (f g : List Seg) : (doR w f g).1.length ≤ f.length + g.length := by
  unfold doR; split
  · have := doF_len w f g (timesF (f.map (·.t) ++ g.map (·.t))) []
    have := timesF_len (f.map (·.t) ++ g.map (·.t))
    simp at *; omega
  · simp
/-- A function as an element of a row. -/
def rowA (f : List Seg) : AV := .sl (f.map Seg.a) .no
theorem rowA_len (f : List Seg) : (rowA f).cells.length = 1 := rfl
end Go.Proofs.Ytddbnncimggogaa.V
end
section
set_option linter.unusedSimpArgs false
set_option linter.unusedVariables false
/- An object becomes a cell that is never written again: pointers to it. -/
namespace Go.Proofs.Ytddbnncimggogaa.V
open Go Go.RowKit
section
variable {B : Base} {I : Im} {st : St} {W : World}
theorem rel_freezeP (h : Rel B I st W) {sz b : Nat} (hp : 0 < sz) {x : AV} (hob : st.objs b = some (.cells x.cells)) (hk : okEl sz x = true) :
    ∃ J, I.le J ∧ Rel B J (st.del b) W ∧ ∀ v, Rep I (.ptr b 0) v → Rep J (.iptr x 0) v := by
  obtain ⟨vs, vty, hb, hr⟩ := h.cells b _ hob
  have hdel := h.weaken (St.del_le st b)
  obtain ⟨hle, hrel⟩ := hdel.know (lo := 0) (hi := sz) hb (by simp [St.del]) (fun o _ _ => h.sep b _ hob o) (fun k hk' e => by
    obtain ⟨_, _, _, _, _, r3⟩ := h.tk k hk'
    rw [e, hob] at r3; cases r3) (h.own b (.inl ⟨_, hob⟩))
  refine ⟨_, hle, hrel, fun v hv => ?_⟩
  simp only [Rep, Nat.add_zero] at hv ⊢
  have hx := hk
  simp only [okEl, Bool.and_eq_true, beq_iff_eq] at hx
  have hl := hr.length
  have hrr : RepR (I.row b 0 sz vs) sz [x] b 0 := by
    refine RepR.of_flat hp (fun y hy => by rcases List.mem_singleton.1 hy with rfl; exact hk) (vs := vs.toList) ?_ (fun j v hj => ?_)
    · simpa using hr.mono hle
    · have hj2 := (List.getElem?_eq_some_iff.1 hj).1
      unfold Im.row
      rw [if_pos ⟨rfl, by omega, by omega⟩, Nat.zero_add]
      simpa using hj
  simp only [RepR] at hrr
  obtain ⟨⟨u, h1, h2, h3⟩, _⟩ := hrr
  exact ⟨b, 0, u, hv, h1, h3⟩
end
/-- A struct of one function that holds a pointer to an object. -/
theorem Wk.freezeC (st : St) {sz b f : Nat} {fs : List AV} (hp : 0 < sz) {x : AV} (hob : st.objs b = some (.cells x.cells)) (hk : okEl sz x = true) : Wk st [.agg [.clo f fs [.ptr b 0]]] (st.del b) [.agg [.clo f fs [.iptr x 0]]] := fun B I W vs hr ha => by
  match vs, ha with
  | [v], ha =>
    obtain ⟨J, q1, q2, q3⟩ := rel_freezeP hr hp hob hk
    refine ⟨J, q1, q2, ?_, trivial⟩
    have h := ha.1
    rw [Rep] at h ⊢
    obtain ⟨us, rfl, hu⟩ := h
    refine ⟨us, rfl, ?_⟩
    match us.toList, hu with
    | [w], hu =>
      refine ⟨?_, trivial⟩
      have h := hu.1
      rw [Rep] at h ⊢
      obtain ⟨aas, bs, rfl, h1, h2⟩ := h
      refine ⟨aas, bs, rfl, RepL.mono q1 _ _ h1, ?_⟩
      match bs.toList, h2 with
      | [z], h2 => exact ⟨q3 z h2.1, trivial⟩
      | [], h2 => exact h2.elim
      | _ :: _ :: _, h2 => exact h2.2.elim
    | [], hu => exact hu.elim
    | _ :: _ :: _, hu => exact hu.2.elim
  | [], ha => exact ha.elim
  | _ :: _ :: _, ha => exact ha.2.elim
end Go.Proofs.Ytddbnncimggogaa.V
end
section
set_option linter.unusedSimpArgs false
set_option linter.unusedVariables false
/- calc: may, the joints. -/
namespace Go.Proofs.Ytddbnncimggogaa.V
open Go Go.Proofs
set_option maxRecDepth 100000
set_option maxHeartbeats 4000000
/-- A function handed over, with what right it has. -/
def rowT (p : List Seg × Tok) : AV := .sl (p.1.map Seg.a) p.2
theorem rowT_len (p : List Seg × Tok) : (rowT p).cells.length = 1 := rfl
theorem may_c (ls : List (List Seg × Tok)) (hn : ls.length ≤ 1000) (hl : ∀ f ∈ ls, f.1.length ≤ 1000000) (t : Tok) : VPure Try.prog 63 [.sl (ls.map rowT) t] (.bool (ls.all fun p => mayF p.1)) := by
  refine VPure.of v_calc_may_ok (Nat.le_of_ble_eq_true rfl) (fun Z st => ?_)
  have HM := Hid.mk (fun (f : List Seg × Tok) (hf : f ∈ ls) => May_F f.1 (by have := hl f hf; omega) f.2)
  clear hl
  simp only [v_calc_may, ↓vD, vU, VE.ev, VE.evs, retvs, tupOf, grab, vfill, vbsl, eqCells, eqCell, veqs, veqs1, vmnx, AV.isCell, AV.isUndef, Nat.reduceEqDiff, Nat.reduceAdd, Nat.reduceSub, Nat.reduceLeDiff, Nat.reduceLT, reduceIte, reduceCtorEq, Nat.reduceBEq, k_app, k_slc1]
  refine loopf_of (len := ls.length) (by simp only [asgL, dsts, List.cons_append, List.nil_append, List.append_nil]; rfl) (by simp only [noR, Bool.and_true, Bool.and_false]; rfl) (by omega) (fun k fr s => s = st ∧ fr.t 7 = .int .i64 k ∧ (ls.take k).all (fun p => mayF p.1) = true) ?_ ?_ ?_
  · simp [↓vD, vU, VE.ev, VE.evs, retvs, tupOf, grab, vfill, vbsl, eqCells, eqCell, veqs, veqs1, vmnx, AV.isCell, AV.isUndef, Nat.reduceEqDiff, Nat.reduceAdd, Nat.reduceSub, Nat.reduceLeDiff, Nat.reduceLT, reduceIte, reduceCtorEq, Nat.reduceBEq, k_app, k_slc1]
  · rintro k fr s hk hw hf hd ⟨rfl, h7, hall⟩
    have h1 := HM.out ls[k] (List.getElem_mem hk)
    (repeat' (first | (simp (config := { maxDischargeDepth := 16 }) only [*, rowT, vX, Int.reduceLE, Int.reduceLT, Int.reduceGE, Int.reduceGT, Int.reduceBEq, Int.reduceBNe, Int.reduceAdd, Int.reduceSub, Int.reduceMul, Int.reduceNeg, ↓vD, vU, VE.ev, VE.evs, retvs, tupOf, grab, vfill, vbsl, eqCells, eqCell, veqs, veqs1, vmnx, AV.isCell, AV.isUndef, Nat.reduceEqDiff, Nat.reduceAdd, Nat.reduceSub, Nat.reduceLeDiff, Nat.reduceLT, reduceIte, reduceCtorEq, Nat.reduceBEq]) | (simp (disch := first | assumption | omega | exact Seg.len _ | exact Vec.len _ | exact Leg.len _ | exact num_len _ | exact rowA_len _ | exact rowA_len | exact rowT_len _ | exact rowT_len | exact Seg.len | exact Vec.len | exact Leg.len | exact num_len | exact AV.slen _ _ | rfl) only [rowT, vP]) | (with_reducible (first | refine gsnd (fun _ => ?_) (fun _ => ?_) | refine csnd (fun _ => ?_) (fun _ => ?_) | refine gsd (fun _ => ?_) (fun _ => ?_) | refine csd (fun _ => ?_) (fun _ => ?_) | refine gsn (fun _ => ?_) (fun _ => ?_) | refine csn (fun _ => ?_) (fun _ => ?_))) | (with_reducible refine gs (fun _ => ?_) (fun _ => ?_)) | (with_reducible refine cs_ (fun _ => ?_) (fun _ => ?_)) | (with_reducible refine objQ_i (fun _ _ => ?_); (repeat (with_reducible refine imp_i (fun _ => ?_)))) | ((try with_reducible refine appK_a ?_); first | (with_reducible refine appD_F (by refine ⟨?_, ?_, ?_, ?_⟩ <;> (first | assumption | omega | exact St.has_add (by assumption) | (simp only [ins_has]; exact St.has_add (by assumption)) | (simp only [ins_has, fresh_ins, kill_ins, add_ins] at *; exact St.has_add (by assumption)) | (simp only [*, ins_has, has_full, St.has_add]; done) | (simp [-List.map_take, -List.map_drop, or_imp, forall_and, Seg.a, Vec.a, Leg.a, num, okEl, cells_agg, cells_int, cells_sl, cells_bool, AV.isCell]; done) | (simp; omega))) (fun _ _ => ?_)) | (with_reducible refine appD_V (by refine ⟨?_, ?_, ?_, ?_, ?_⟩ <;> (first | assumption | omega | exact St.has_add (by assumption) | (simp only [ins_has]; exact St.has_add (by assumption)) | (simp only [ins_has, fresh_ins, kill_ins, add_ins] at *; exact St.has_add (by assumption)) | (simp only [*, ins_has, has_full, St.has_add]; done) | (simp [-List.map_take, -List.map_drop, or_imp, forall_and, Seg.a, Vec.a, Leg.a, num, okEl, cells_agg, cells_int, cells_sl, cells_bool, AV.isCell]; done) | (simp; omega))) (fun _ _ => ?_))) | (with_reducible refine freshQ_i (fun _ _ => ?_)) | (with_reducible refine nilQ_i (fun _ _ => ?_)) | (with_reducible first | refine callH_use (h1) ?_ | refine pureQ_use (h1) ?_)))
    · rename_i hc
      rw [all_false (p := fun p : List Seg × Tok => mayF p.1) hk (by simpa using hc)]
    · rename_i hc
      rw [all_take_succ (p := fun p : List Seg × Tok => mayF p.1) hk, hall]; simpa using hc
  · rintro fr s hf hd ⟨rfl, h7, hall⟩
    rw [List.take_length] at hall
    (repeat' (first | (simp (config := { maxDischargeDepth := 16 }) only [*, vX, Int.reduceLE, Int.reduceLT, Int.reduceGE, Int.reduceGT, Int.reduceBEq, Int.reduceBNe, Int.reduceAdd, Int.reduceSub, Int.reduceMul, Int.reduceNeg, ↓vD, vU, VE.ev, VE.evs, retvs, tupOf, grab, vfill, vbsl, eqCells, eqCell, veqs, veqs1, vmnx, AV.isCell, AV.isUndef, Nat.reduceEqDiff, Nat.reduceAdd, Nat.reduceSub, Nat.reduceLeDiff, Nat.reduceLT, reduceIte, reduceCtorEq, Nat.reduceBEq]) | (simp (disch := first | assumption | omega | exact Seg.len _ | exact Vec.len _ | exact Leg.len _ | exact num_len _ | exact rowA_len _ | exact rowA_len | exact rowT_len _ | exact rowT_len | exact Seg.len | exact Vec.len | exact Leg.len | exact num_len | exact AV.slen _ _ | rfl) only [vP]) | (with_reducible (first | refine gsnd (fun _ => ?_) (fun _ => ?_) | refine csnd (fun _ => ?_) (fun _ => ?_) | refine gsd (fun _ => ?_) (fun _ => ?_) | refine csd (fun _ => ?_) (fun _ => ?_) | refine gsn (fun _ => ?_) (fun _ => ?_) | refine csn (fun _ => ?_) (fun _ => ?_))) | (with_reducible refine gs (fun _ => ?_) (fun _ => ?_)) | (with_reducible refine cs_ (fun _ => ?_) (fun _ => ?_)) | (with_reducible refine objQ_i (fun _ _ => ?_); (repeat (with_reducible refine imp_i (fun _ => ?_)))) | ((try with_reducible refine appK_a ?_); first | (with_reducible refine appD_F (by refine ⟨?_, ?_, ?_, ?_⟩ <;> (first | assumption | omega | exact St.has_add (by assumption) | (simp only [ins_has]; exact St.has_add (by assumption)) | (simp only [ins_has, fresh_ins, kill_ins, add_ins] at *; exact St.has_add (by assumption)) | (simp only [*, ins_has, has_full, St.has_add]; done) | (simp [-List.map_take, -List.map_drop, or_imp, forall_and, Seg.a, Vec.a, Leg.a, num, okEl, cells_agg, cells_int, cells_sl, cells_bool, AV.isCell]; done) | (simp; omega))) (fun _ _ => ?_)) | (with_reducible refine appD_V (by refine ⟨?_, ?_, ?_, ?_, ?_⟩ <;> (first | assumption | omega | exact St.has_add (by assumption) | (simp only [ins_has]; exact St.has_add (by assumption)) | (simp only [ins_has, fresh_ins, kill_ins, add_ins] at *; exact St.has_add (by assumption)) | (simp only [*, ins_has, has_full, St.has_add]; done) | (simp [-List.map_take, -List.map_drop, or_imp, forall_and, Seg.a, Vec.a, Leg.a, num, okEl, cells_agg, cells_int, cells_sl, cells_bool, AV.isCell]; done) | (simp; omega))) (fun _ _ => ?_))) | (with_reducible refine freshQ_i (fun _ _ => ?_)) | (with_reducible refine nilQ_i (fun _ _ => ?_))))
theorem may2_c (f g : List Seg) (hf : f.length ≤ 1000000) (hg : g.length ≤ 1000000) (t t1 t2 : Tok) : VPure Try.prog 63 [.sl [.sl (f.map Seg.a) t1, .sl (g.map Seg.a) t2] t] (.bool (mayF f && mayF g)) := by
  have := may_c [(f, t1), (g, t2)] (by simp) (by simp [hf, hg]) t
  simpa [rowT] using this
/-- What a joint does: a contract for a function value. -/
def Joint (g : AV) (jf : Vec → Vec → Vec × Int) : Prop := ∃ f fs cs, g = .clo f fs cs ∧ ∀ a b : Vec, VPure Try.prog f (fs ++ [.agg [.int .i64 a.m, .int .i64 a.c], .agg [.int .i64 b.m, .int .i64 b.c]] ++ cs) (.tup [.agg [.int .i64 (jf a b).1.m, .int .i64 (jf a b).1.c], .int .i64 (jf a b).2])
theorem plain1_c {gf : Nat} (jf : Vec → Vec → Vec) (m c m' c' : Int) (hg : VPure Try.prog gf [.agg [.int .i64 m, .int .i64 c], .agg [.int .i64 m', .int .i64 c']] (.agg [.int .i64 (jf ⟨m, c⟩ ⟨m', c'⟩).m, .int .i64 (jf ⟨m, c⟩ ⟨m', c'⟩).c])) :
    VPure Try.prog 116 [.agg [.int .i64 m, .int .i64 c], .agg [.int .i64 m', .int .i64 c'], .iptr (.clo gf [] []) 0] (.tup [.agg [.int .i64 (jf ⟨m, c⟩ ⟨m', c'⟩).m, .int .i64 (jf ⟨m, c⟩ ⟨m', c'⟩).c], .int .i64 0]) := by
  refine VPure.of v_calc_plain_1_ok (Nat.le_of_ble_eq_true rfl) (fun Z st => ?_)
  simp only [v_calc_plain_1, ↓vD, vU, VE.ev, VE.evs, retvs, tupOf, grab, vfill, vbsl, eqCells, eqCell, veqs, veqs1, vmnx, AV.isCell, AV.isUndef, Nat.reduceEqDiff, Nat.reduceAdd, Nat.reduceSub, Nat.reduceLeDiff, Nat.reduceLT, reduceIte, reduceCtorEq, Nat.reduceBEq, k_app, k_slc1]
  have hld : ∀ st : St, vload st (.iptr (.clo gf [] []) 0) 1 false = some (.clo gf [] []) := fun _ => rfl
  (repeat' (first | (simp (config := { maxDischargeDepth := 16 }) only [*, vX, Int.reduceLE, Int.reduceLT, Int.reduceGE, Int.reduceGT, Int.reduceBEq, Int.reduceBNe, Int.reduceAdd, Int.reduceSub, Int.reduceMul, Int.reduceNeg, ↓vD, vU, VE.ev, VE.evs, retvs, tupOf, grab, vfill, vbsl, eqCells, eqCell, veqs, veqs1, vmnx, AV.isCell, AV.isUndef, Nat.reduceEqDiff, Nat.reduceAdd, Nat.reduceSub, Nat.reduceLeDiff, Nat.reduceLT, reduceIte, reduceCtorEq, Nat.reduceBEq]) | (simp (disch := first | assumption | omega | exact Seg.len _ | exact Vec.len _ | exact Leg.len _ | exact num_len _ | exact rowA_len _ | exact rowA_len | exact rowT_len _ | exact rowT_len | exact Seg.len | exact Vec.len | exact Leg.len | exact num_len | exact AV.slen _ _ | rfl) only [vP]) | (with_reducible (first | refine gsnd (fun _ => ?_) (fun _ => ?_) | refine csnd (fun _ => ?_) (fun _ => ?_) | refine gsd (fun _ => ?_) (fun _ => ?_) | refine csd (fun _ => ?_) (fun _ => ?_) | refine gsn (fun _ => ?_) (fun _ => ?_) | refine csn (fun _ => ?_) (fun _ => ?_))) | (with_reducible refine gs (fun _ => ?_) (fun _ => ?_)) | (with_reducible refine cs_ (fun _ => ?_) (fun _ => ?_)) | (with_reducible refine objQ_i (fun _ _ => ?_); (repeat (with_reducible refine imp_i (fun _ => ?_)))) | ((try with_reducible refine appK_a ?_); first | (with_reducible refine appD_F (by refine ⟨?_, ?_, ?_, ?_⟩ <;> (first | assumption | omega | exact St.has_add (by assumption) | (simp only [ins_has]; exact St.has_add (by assumption)) | (simp only [ins_has, fresh_ins, kill_ins, add_ins] at *; exact St.has_add (by assumption)) | (simp only [*, ins_has, has_full, St.has_add]; done) | (simp [-List.map_take, -List.map_drop, or_imp, forall_and, Seg.a, Vec.a, Leg.a, num, okEl, cells_agg, cells_int, cells_sl, cells_bool, AV.isCell]; done) | (simp; omega))) (fun _ _ => ?_)) | (with_reducible refine appD_V (by refine ⟨?_, ?_, ?_, ?_, ?_⟩ <;> (first | assumption | omega | exact St.has_add (by assumption) | (simp only [ins_has]; exact St.has_add (by assumption)) | (simp only [ins_has, fresh_ins, kill_ins, add_ins] at *; exact St.has_add (by assumption)) | (simp only [*, ins_has, has_full, St.has_add]; done) | (simp [-List.map_take, -List.map_drop, or_imp, forall_and, Seg.a, Vec.a, Leg.a, num, okEl, cells_agg, cells_int, cells_sl, cells_bool, AV.isCell]; done) | (simp; omega))) (fun _ _ => ?_))) | (with_reducible refine freshQ_i (fun _ _ => ?_)) | (with_reducible refine nilQ_i (fun _ _ => ?_)) | (with_reducible first | refine callH_use (hg) ?_ | refine pureQ_use (hg) ?_)))
theorem plain_c (gf : Nat) : VPure Try.prog 73 [.clo gf [] []] (.agg [.clo 116 [] [.iptr (.clo gf [] []) 0]]) := fun Z st => by
  refine VCalls.wk (K := fun v s => ∃ b, st.objs b = none ∧ v = .agg [.clo 116 [] [.ptr b 0]] ∧ s = st.ins b (.cells [.clo gf [] []])) ?_ ?_
  · refine VCalls.of v_calc_plain_ok (Nat.le_of_ble_eq_true rfl) ?_
    simp only [v_calc_plain, ↓vD, vU, VE.ev, VE.evs, retvs, tupOf, grab, vfill, vbsl, eqCells, eqCell, veqs, veqs1, vmnx, AV.isCell, AV.isUndef, Nat.reduceEqDiff, Nat.reduceAdd, Nat.reduceSub, Nat.reduceLeDiff, Nat.reduceLT, reduceIte, reduceCtorEq, Nat.reduceBEq, k_app, k_slc1]
    (repeat' (first | (simp (config := { maxDischargeDepth := 16 }) only [*, vX, Int.reduceLE, Int.reduceLT, Int.reduceGE, Int.reduceGT, Int.reduceBEq, Int.reduceBNe, Int.reduceAdd, Int.reduceSub, Int.reduceMul, Int.reduceNeg, ↓vD, vU, VE.ev, VE.evs, retvs, tupOf, grab, vfill, vbsl, eqCells, eqCell, veqs, veqs1, vmnx, AV.isCell, AV.isUndef, Nat.reduceEqDiff, Nat.reduceAdd, Nat.reduceSub, Nat.reduceLeDiff, Nat.reduceLT, reduceIte, reduceCtorEq, Nat.reduceBEq]) | (simp (disch := first | assumption | omega | exact Seg.len _ | exact Vec.len _ | exact Leg.len _ | exact num_len _ | exact rowA_len _ | exact rowA_len | exact rowT_len _ | exact rowT_len | exact Seg.len | exact Vec.len | exact Leg.len | exact num_len | exact AV.slen _ _ | rfl) only [vP]) | (with_reducible (first | refine gsnd (fun _ => ?_) (fun _ => ?_) | refine csnd (fun _ => ?_) (fun _ => ?_) | refine gsd (fun _ => ?_) (fun _ => ?_) | refine csd (fun _ => ?_) (fun _ => ?_) | refine gsn (fun _ => ?_) (fun _ => ?_) | refine csn (fun _ => ?_) (fun _ => ?_))) | (with_reducible refine gs (fun _ => ?_) (fun _ => ?_)) | (with_reducible refine cs_ (fun _ => ?_) (fun _ => ?_)) | (with_reducible refine objQ_i (fun _ _ => ?_); (repeat (with_reducible refine imp_i (fun _ => ?_)))) | ((try with_reducible refine appK_a ?_); first | (with_reducible refine appD_F (by refine ⟨?_, ?_, ?_, ?_⟩ <;> (first | assumption | omega | exact St.has_add (by assumption) | (simp only [ins_has]; exact St.has_add (by assumption)) | (simp only [ins_has, fresh_ins, kill_ins, add_ins] at *; exact St.has_add (by assumption)) | (simp only [*, ins_has, has_full, St.has_add]; done) | (simp [-List.map_take, -List.map_drop, or_imp, forall_and, Seg.a, Vec.a, Leg.a, num, okEl, cells_agg, cells_int, cells_sl, cells_bool, AV.isCell]; done) | (simp; omega))) (fun _ _ => ?_)) | (with_reducible refine appD_V (by refine ⟨?_, ?_, ?_, ?_, ?_⟩ <;> (first | assumption | omega | exact St.has_add (by assumption) | (simp only [ins_has]; exact St.has_add (by assumption)) | (simp only [ins_has, fresh_ins, kill_ins, add_ins] at *; exact St.has_add (by assumption)) | (simp only [*, ins_has, has_full, St.has_add]; done) | (simp [-List.map_take, -List.map_drop, or_imp, forall_and, Seg.a, Vec.a, Leg.a, num, okEl, cells_agg, cells_int, cells_sl, cells_bool, AV.isCell]; done) | (simp; omega))) (fun _ _ => ?_))) | (with_reducible refine freshQ_i (fun _ _ => ?_)) | (with_reducible refine nilQ_i (fun _ _ => ?_))))
    rename_i b1 h1 b2 h2 n1 n2
    exact ⟨_, by (refine ⟨fun i o e => ?_, fun _ h => h⟩; revert e; simp only [St.ins, St.del, add_objs, kill_objs]; (repeat' split); all_goals (first | exact id | (intros; contradiction) | (intros; subst_vars; contradiction) | (intros; simp_all; done) | (intros; subst_vars; simp_all; done))), b1, h1, rfl, rfl⟩
  · rintro v s ⟨b, hb, rfl, rfl⟩
    refine ⟨_, _, (Wk.freezeC (sz := 1) _ (by omega) (x := .clo gf [] []) (by simp [St.ins, AV.cells]) (by simp [okEl, AV.cells, AV.isCell])), rfl, ?_⟩
    exact del_ins _ _ _ hb
theorem max_joint : Joint (.clo 116 [] [.iptr (.clo 75 [] []) 0]) (fun a b => (maxV a b, 0)) := ⟨_, _, _, rfl, fun a b => plain1_c maxV a.m a.c b.m b.c (Max_v _ _ _ _)⟩
end Go.Proofs.Ytddbnncimggogaa.V
end
section
set_option linter.unusedSimpArgs false
set_option linter.unusedVariables false
/- slices.SortStableFunc and what it calls, at livery/api.Seg. -/
namespace Go.Proofs.Ytddbnncimggogaa.V.SoSeg
open Go Go.Proofs Go.Proofs.Ytddbnncimggogaa.SP
set_option maxRecDepth 100000
variable {α : Type} [Inhabited α] {Z : Im}
theorem ld (f : α → AV) (hok : ∀ x, okEl 3 (f x) = true) (hag : ∀ x, AV.agg (f x).cells = f x) : ∀ (st : St) (b : Nat) (rest : List AV) (xs : List α) (i : Nat), i < xs.length → vload (ob st b f rest xs) (.ptr b (i * 3)) 3 true = some (f (xs.getD i default)) :=
  fun st b rest xs i h => ob_load st b f rest xs i 3 hok hag h
theorem sto (f : α → AV) (hok : ∀ x, okEl 3 (f x) = true) : ∀ (st : St) (b : Nat) (rest : List AV) (xs : List α) (i : Nat) (y : α) (K : AV → St → Prop) (t : Tag K), i < xs.length → storeK (.ptr b (i * 3)) (f y) 3 (ob st b f rest xs) K t = K .no (ob st b f rest (xs.set i y)) :=
  fun st b rest xs i y K t h => ob_store st b f rest xs i 3 y K t (by omega) hok h
theorem swapRange (f : α → AV) (hok : ∀ x, okEl 3 (f x) = true) (hag : ∀ x, AV.agg (f x).cells = f x) (st : St) (bb L c : Nat) (rest : List AV) (cl : AV) (A U B V C : List α) (a b : Nat) (ha : a = A.length) (hb : b = A.length + U.length + B.length) (hn : V.length = U.length)
    (hL : L = (A ++ (U ++ (B ++ (V ++ C)))).length) (hm : L ≤ 1000000000) :
    VCalls Try.prog Z 161 [.osl bb L c, .int .i64 a, .int .i64 b, .int .i64 U.length, cl] (ob st bb f rest (A ++ (U ++ (B ++ (V ++ C)))))
      (fun r s => r = .tup [] ∧ s = ob st bb f rest (A ++ (V ++ (B ++ (U ++ C))))) := by
  have hlen : A.length + (U.length + (B.length + (V.length + C.length))) = L := by rw [hL]; simp
  refine VCalls.of v_slices_swapRangeCmpFunc_api_Seg_ok (Nat.le_of_ble_eq_true rfl) ?_
  simp only [v_slices_swapRangeCmpFunc_api_Seg, ↓vD, vU, VE.ev, VE.evs, retvs, tupOf, grab, vfill, vbsl, eqCells, eqCell, veqs, veqs1, vmnx, AV.isCell, AV.isUndef, Nat.reduceEqDiff, Nat.reduceAdd, Nat.reduceSub, Nat.reduceLeDiff, Nat.reduceLT, reduceIte, reduceCtorEq, Nat.reduceBEq, k_app, k_slc1]
  refine loopf_of (by simp only [asgL, dsts, List.cons_append, List.nil_append, List.append_nil]; rfl) (by simp only [noR, Bool.and_true, Bool.and_false]; rfl) (len := U.length) (by omega) (fun k fr s => s = ob st bb f rest (A ++ (V.take k ++ (U.drop k ++ (B ++ (U.take k ++ (V.drop k ++ C)))))) ∧ fr.t 10 = .int .i64 k) ?_ ?_ ?_
  · simp [↓vD, vU, VE.ev, VE.evs, retvs, tupOf, grab, vfill, vbsl, eqCells, eqCell, veqs, veqs1, vmnx, AV.isCell, AV.isUndef, Nat.reduceEqDiff, Nat.reduceAdd, Nat.reduceSub, Nat.reduceLeDiff, Nat.reduceLT, reduceIte, reduceCtorEq, Nat.reduceBEq, k_app, k_slc1]
  · rintro k fr s hk hw hf hd ⟨rfl, h10⟩
    obtain ⟨p, hp⟩ : ∃ p, p = a + k := ⟨_, rfl⟩
    obtain ⟨q, hq⟩ : ∃ q, q = b + k := ⟨_, rfl⟩
    have w1 : IntKind.i64.wrap ((a : Int) + k) = (p : Int) := by rw [wrap_i64 _ (by omega) (by omega)]; omega
    have w2 : IntKind.i64.wrap ((b : Int) + k) = (q : Int) := by rw [wrap_i64 _ (by omega) (by omega)]; omega
    have hpL : p < L := by omega
    have hqL : q < L := by omega
    obtain ⟨ys, hys⟩ : ∃ ys, ys = A ++ (V.take k ++ (U.drop k ++ (B ++ (U.take k ++ (V.drop k ++ C))))) := ⟨_, rfl⟩
    have hyl : ys.length = L := by rw [hys]; simp; omega
    have hpy : p < ys.length := by omega
    have hqy : q < ys.length := by omega
    have hqs : q < (ys.set p (ys.getD q default)).length := by simp; omega
    have hsw : swp ys p q = A ++ (V.take (k + 1) ++ (U.drop (k + 1) ++ (B ++ (U.take (k + 1) ++ (V.drop (k + 1) ++ C))))) := by
      have hiV : k < V.length := by omega
      rw [hys, List.drop_eq_getElem_cons hk, List.drop_eq_getElem_cons hiV, List.take_succ_eq_append_getElem hiV, List.take_succ_eq_append_getElem hk]
      have h1 := swp_app (A ++ V.take k) (U.drop (k + 1) ++ (B ++ U.take k)) (V.drop (k + 1) ++ C) U[k] V[k]
      have ea : (A ++ V.take k).length = p := by simp; omega
      have eb : (A ++ V.take k).length + 1 + (U.drop (k + 1) ++ (B ++ U.take k)).length = q := by simp; omega
      rw [ea] at h1
      rw [ea] at eb
      rw [eb] at h1
      simp only [List.append_assoc, List.cons_append, List.nil_append] at h1 ⊢
      exact h1
    unfold swp at hsw
    rw [← hys, ← hsw]
    clear hys hsw hlen hL hp hq ha hb
    have hld := ld f hok hag
    have hst := sto f hok
    (repeat' (first | (simp (config := { maxDischargeDepth := 16 }) only [*, ob_iad, ↓vD, vU, VE.ev, VE.evs, retvs, tupOf, grab, vfill, vbsl, eqCells, eqCell, veqs, veqs1, vmnx, AV.isCell, AV.isUndef, Nat.reduceEqDiff, Nat.reduceAdd, Nat.reduceSub, Nat.reduceLeDiff, Nat.reduceLT, reduceIte, reduceCtorEq, Nat.reduceBEq, k_app, k_slc1]) | (with_reducible refine gs (fun _ => ?_) (fun _ => ?_)) | (with_reducible refine cs_ (fun _ => ?_) (fun _ => ?_)) | (with_reducible refine objQ_i (fun _ _ => ?_); (repeat (with_reducible refine imp_i (fun _ => ?_)))) | (with_reducible refine appK_a ?_) | (with_reducible refine freshQ_i (fun _ _ => ?_)) | (with_reducible refine nilQ_i (fun _ _ => ?_))))
  · rintro fr s hf hd ⟨rfl, h10⟩
    have e2 : List.take U.length V = V := List.take_of_length_le (by omega)
    have e3 : List.drop U.length V = [] := List.drop_of_length_le (by omega)
    (repeat' (first | (simp (config := { maxDischargeDepth := 16 }) only [*, List.take_length, List.drop_length, ↓vD, vU, VE.ev, VE.evs, retvs, tupOf, grab, vfill, vbsl, eqCells, eqCell, veqs, veqs1, vmnx, AV.isCell, AV.isUndef, Nat.reduceEqDiff, Nat.reduceAdd, Nat.reduceSub, Nat.reduceLeDiff, Nat.reduceLT, reduceIte, reduceCtorEq, Nat.reduceBEq, k_app, k_slc1]) | (with_reducible refine gs (fun _ => ?_) (fun _ => ?_)) | (with_reducible refine cs_ (fun _ => ?_) (fun _ => ?_)) | (with_reducible refine objQ_i (fun _ _ => ?_); (repeat (with_reducible refine imp_i (fun _ => ?_)))) | (with_reducible refine appK_a ?_) | (with_reducible refine freshQ_i (fun _ _ => ?_)) | (with_reducible refine nilQ_i (fun _ _ => ?_))))
theorem rotate (f : α → AV) (hok : ∀ x, okEl 3 (f x) = true) (hag : ∀ x, AV.agg (f x).cells = f x) (st : St) (bb L c : Nat) (rest : List AV) (cl : AV) (A U V C : List α) (a m b : Nat) (ha : A.length = a) (hm0 : A.length + U.length = m) (hb : A.length + U.length + V.length = b) (hU : 0 < U.length) (hV : 0 < V.length)
    (hL : (A ++ (U ++ (V ++ C))).length = L) (hm : L ≤ 1000000000) :
    VCalls Try.prog Z 156 [.osl bb L c, .int .i64 a, .int .i64 m, .int .i64 b, cl] (ob st bb f rest (A ++ (U ++ (V ++ C))))
      (fun r s => r = .tup [] ∧ s = ob st bb f rest (A ++ (V ++ (U ++ C)))) := by
  have hlen : A.length + (U.length + (V.length + C.length)) = L := by rw [← hL]; simp
  have w1 : IntKind.i64.wrap ((m : Int) - a) = (U.length : Int) := by rw [wrap_i64 _ (by omega) (by omega)]; omega
  have w2 : IntKind.i64.wrap ((b : Int) - m) = (V.length : Int) := by rw [wrap_i64 _ (by omega) (by omega)]; omega
  refine VCalls.of v_slices_rotateCmpFunc_api_Seg_ok (Nat.le_of_ble_eq_true rfl) ?_
  simp only [v_slices_rotateCmpFunc_api_Seg, ↓vD, vU, VE.ev, VE.evs, retvs, tupOf, grab, vfill, vbsl, eqCells, eqCell, veqs, veqs1, vmnx, AV.isCell, AV.isUndef, Nat.reduceEqDiff, Nat.reduceAdd, Nat.reduceSub, Nat.reduceLeDiff, Nat.reduceLT, reduceIte, reduceCtorEq, Nat.reduceBEq, k_app, k_slc1]
  (repeat' (first | (simp (config := { maxDischargeDepth := 16 }) only [*, ↓vD, vU, VE.ev, VE.evs, retvs, tupOf, grab, vfill, vbsl, eqCells, eqCell, veqs, veqs1, vmnx, AV.isCell, AV.isUndef, Nat.reduceEqDiff, Nat.reduceAdd, Nat.reduceSub, Nat.reduceLeDiff, Nat.reduceLT, reduceIte, reduceCtorEq, Nat.reduceBEq, k_app, k_slc1]) | (with_reducible refine gs (fun _ => ?_) (fun _ => ?_)) | (with_reducible refine cs_ (fun _ => ?_) (fun _ => ?_)) | (with_reducible refine objQ_i (fun _ _ => ?_); (repeat (with_reducible refine imp_i (fun _ => ?_)))) | (with_reducible refine appK_a ?_) | (with_reducible refine freshQ_i (fun _ _ => ?_)) | (with_reducible refine nilQ_i (fun _ _ => ?_))))
  refine loopm_of (by simp only [asgL, dsts, List.cons_append, List.nil_append, List.append_nil]; rfl) (by simp only [noR, Bool.and_true, Bool.and_false]; rfl) (fun fr s => ∃ A1 U1 V1 C1 : List α, s = ob st bb f rest (A1 ++ (U1 ++ (V1 ++ C1))) ∧ fr.t 10 = .int .i64 U1.length ∧ fr.t 11 = .int .i64 V1.length ∧ 0 < U1.length ∧ 0 < V1.length ∧ A1.length + U1.length = m ∧ A1.length + (U1.length + (V1.length + C1.length)) = L ∧ A1 ++ (V1 ++ (U1 ++ C1)) = A ++ (V ++ (U ++ C)))
    (fun fr _ => (match fr.t 10 with | .int _ n => n.toNat | _ => 0) + (match fr.t 11 with | .int _ n => n.toNat | _ => 0)) ?_ ?_
  · exact ⟨A, U, V, C, rfl, by simp [↓vD, vU, VE.ev, VE.evs, retvs, tupOf, grab, vfill, vbsl, eqCells, eqCell, veqs, veqs1, vmnx, AV.isCell, AV.isUndef, Nat.reduceEqDiff, Nat.reduceAdd, Nat.reduceSub, Nat.reduceLeDiff, Nat.reduceLT, reduceIte, reduceCtorEq, Nat.reduceBEq, k_app, k_slc1], by simp [↓vD, vU, VE.ev, VE.evs, retvs, tupOf, grab, vfill, vbsl, eqCells, eqCell, veqs, veqs1, vmnx, AV.isCell, AV.isUndef, Nat.reduceEqDiff, Nat.reduceAdd, Nat.reduceSub, Nat.reduceLeDiff, Nat.reduceLT, reduceIte, reduceCtorEq, Nat.reduceBEq, k_app, k_slc1], hU, hV, hm0, hlen, rfl⟩
  · rintro fr s hf hd ⟨A1, U1, V1, C1, rfl, h10, h11, hU1, hV1, hm1, hl1, hT⟩
    obtain ⟨p, hp⟩ : ∃ p, A1.length = p := ⟨_, rfl⟩
    have w3 : IntKind.i64.wrap ((m : Int) - U1.length) = (p : Int) := by rw [wrap_i64 _ (by omega) (by omega)]; omega
    rw [← hT]
    clear hT w1 w2 hL hlen
    by_cases heq : U1.length = V1.length
    · have e1 : ((U1.length : Int) != (V1.length : Int)) = false := by simp [heq]
      have hsw := swapRange (Z := Z) f hok hag st bb L c rest cl A1 U1 [] V1 C1 p m hp.symm (by simp; omega) heq.symm (by simp; omega) hm
      clear heq
      (repeat' (first | (simp (config := { maxDischargeDepth := 16 }) only [*, ↓vD, vU, VE.ev, VE.evs, retvs, tupOf, grab, vfill, vbsl, eqCells, eqCell, veqs, veqs1, vmnx, AV.isCell, AV.isUndef, Nat.reduceEqDiff, Nat.reduceAdd, Nat.reduceSub, Nat.reduceLeDiff, Nat.reduceLT, reduceIte, reduceCtorEq, Nat.reduceBEq, k_app, k_slc1]) | (with_reducible refine gs (fun _ => ?_) (fun _ => ?_)) | (with_reducible refine cs_ (fun _ => ?_) (fun _ => ?_)) | (with_reducible refine objQ_i (fun _ _ => ?_); (repeat (with_reducible refine imp_i (fun _ => ?_)))) | (with_reducible refine appK_a ?_) | (with_reducible refine freshQ_i (fun _ _ => ?_)) | (with_reducible refine nilQ_i (fun _ _ => ?_))))
      refine callH_then hsw ?_
      rintro r s ⟨rfl, rfl⟩
      (repeat' (first | (simp (config := { maxDischargeDepth := 16 }) only [*, ↓vD, vU, VE.ev, VE.evs, retvs, tupOf, grab, vfill, vbsl, eqCells, eqCell, veqs, veqs1, vmnx, AV.isCell, AV.isUndef, Nat.reduceEqDiff, Nat.reduceAdd, Nat.reduceSub, Nat.reduceLeDiff, Nat.reduceLT, reduceIte, reduceCtorEq, Nat.reduceBEq, k_app, k_slc1]) | (with_reducible refine gs (fun _ => ?_) (fun _ => ?_)) | (with_reducible refine cs_ (fun _ => ?_) (fun _ => ?_)) | (with_reducible refine objQ_i (fun _ _ => ?_); (repeat (with_reducible refine imp_i (fun _ => ?_)))) | (with_reducible refine appK_a ?_) | (with_reducible refine freshQ_i (fun _ _ => ?_)) | (with_reducible refine nilQ_i (fun _ _ => ?_))))
    · have e1 : ((U1.length : Int) != (V1.length : Int)) = true := by simp; omega
      by_cases hgt : V1.length < U1.length
      · have e2 : decide ((V1.length : Int) < U1.length) = true := by simp; omega
        have w4 : IntKind.i64.wrap ((U1.length : Int) - V1.length) = ((U1.drop V1.length).length : Int) := by rw [wrap_i64 _ (by omega) (by omega)]; simp; omega
        have h1 : (U1.take V1.length).length = V1.length := by simp; omega
        have hdec : A1 ++ (U1 ++ (V1 ++ C1)) = A1 ++ (U1.take V1.length ++ (U1.drop V1.length ++ (V1 ++ C1))) := by rw [← List.append_assoc (U1.take _), List.take_append_drop]
        rw [hdec]
        have hsw := swapRange (Z := Z) f hok hag st bb L c rest cl A1 (U1.take V1.length) (U1.drop V1.length) V1 C1 p m hp.symm (by simp; omega) h1.symm (by simp; omega) hm
        rw [h1] at hsw
        have hneg : ¬ U1.length = V1.length := heq
        clear hdec heq
        (repeat' (first | (simp (config := { maxDischargeDepth := 16 }) only [*, ↓vD, vU, VE.ev, VE.evs, retvs, tupOf, grab, vfill, vbsl, eqCells, eqCell, veqs, veqs1, vmnx, AV.isCell, AV.isUndef, Nat.reduceEqDiff, Nat.reduceAdd, Nat.reduceSub, Nat.reduceLeDiff, Nat.reduceLT, reduceIte, reduceCtorEq, Nat.reduceBEq, k_app, k_slc1]) | (with_reducible refine gs (fun _ => ?_) (fun _ => ?_)) | (with_reducible refine cs_ (fun _ => ?_) (fun _ => ?_)) | (with_reducible refine objQ_i (fun _ _ => ?_); (repeat (with_reducible refine imp_i (fun _ => ?_)))) | (with_reducible refine appK_a ?_) | (with_reducible refine freshQ_i (fun _ _ => ?_)) | (with_reducible refine nilQ_i (fun _ _ => ?_))))
        refine callH_then hsw ?_
        rintro r s ⟨rfl, rfl⟩
        (repeat' (first | (simp (config := { maxDischargeDepth := 16 }) only [*, ↓vD, vU, VE.ev, VE.evs, retvs, tupOf, grab, vfill, vbsl, eqCells, eqCell, veqs, veqs1, vmnx, AV.isCell, AV.isUndef, Nat.reduceEqDiff, Nat.reduceAdd, Nat.reduceSub, Nat.reduceLeDiff, Nat.reduceLT, reduceIte, reduceCtorEq, Nat.reduceBEq, k_app, k_slc1]) | (with_reducible refine gs (fun _ => ?_) (fun _ => ?_)) | (with_reducible refine cs_ (fun _ => ?_) (fun _ => ?_)) | (with_reducible refine objQ_i (fun _ _ => ?_); (repeat (with_reducible refine imp_i (fun _ => ?_)))) | (with_reducible refine appK_a ?_) | (with_reducible refine freshQ_i (fun _ _ => ?_)) | (with_reducible refine nilQ_i (fun _ _ => ?_))))
        refine ⟨_, St.le.refl _, ⟨A1 ++ V1, U1.drop V1.length, U1.take V1.length, C1, by simp, rfl, by rw [h1], by simp only [List.length_append, List.length_drop, List.length_take]; omega, by omega, by simp only [List.length_append, List.length_drop, List.length_take]; omega, by simp only [List.length_append, List.length_drop, List.length_take]; omega, ?_⟩, ?_⟩
        · rw [← List.append_assoc (U1.take _), List.take_append_drop, List.append_assoc]
        · simp only [Int.toNat_natCast, List.length_drop, List.length_take] at *; omega
      · have hlt : U1.length < V1.length := by omega
        have e2 : decide ((V1.length : Int) < U1.length) = false := by simp; omega
        have w4 : IntKind.i64.wrap ((V1.length : Int) - U1.length) = ((V1.take (V1.length - U1.length)).length : Int) := by rw [wrap_i64 _ (by omega) (by omega)]; simp; omega
        obtain ⟨d, hdd⟩ : ∃ d, V1.length - U1.length = d := ⟨_, rfl⟩
        rw [hdd] at w4
        obtain ⟨q, hq⟩ : ∃ q, m + d = q := ⟨_, rfl⟩
        have w5 : IntKind.i64.wrap ((m : Int) + V1.length) = ((m + V1.length : Nat) : Int) := by rw [wrap_i64 _ (by omega) (by omega)]; omega
        have w6 : IntKind.i64.wrap (((m : Int) + V1.length) - U1.length) = (q : Int) := by rw [wrap_i64 _ (by omega) (by omega)]; omega
        have h1 : (V1.drop d).length = U1.length := by simp; omega
        have hdec : A1 ++ (U1 ++ (V1 ++ C1)) = A1 ++ (U1 ++ (V1.take d ++ (V1.drop d ++ C1))) := by rw [← List.append_assoc (V1.take _), List.take_append_drop]
        rw [hdec]
        have hsw := swapRange (Z := Z) f hok hag st bb L c rest cl A1 U1 (V1.take d) (V1.drop d) C1 p q hp.symm (by simp; omega) h1 (by simp; omega) hm
        clear hdec heq
        (repeat' (first | (simp (config := { maxDischargeDepth := 16 }) only [*, ↓vD, vU, VE.ev, VE.evs, retvs, tupOf, grab, vfill, vbsl, eqCells, eqCell, veqs, veqs1, vmnx, AV.isCell, AV.isUndef, Nat.reduceEqDiff, Nat.reduceAdd, Nat.reduceSub, Nat.reduceLeDiff, Nat.reduceLT, reduceIte, reduceCtorEq, Nat.reduceBEq, k_app, k_slc1]) | (with_reducible refine gs (fun _ => ?_) (fun _ => ?_)) | (with_reducible refine cs_ (fun _ => ?_) (fun _ => ?_)) | (with_reducible refine objQ_i (fun _ _ => ?_); (repeat (with_reducible refine imp_i (fun _ => ?_)))) | (with_reducible refine appK_a ?_) | (with_reducible refine freshQ_i (fun _ _ => ?_)) | (with_reducible refine nilQ_i (fun _ _ => ?_))))
        refine callH_then hsw ?_
        rintro r s ⟨rfl, rfl⟩
        (repeat' (first | (simp (config := { maxDischargeDepth := 16 }) only [*, ↓vD, vU, VE.ev, VE.evs, retvs, tupOf, grab, vfill, vbsl, eqCells, eqCell, veqs, veqs1, vmnx, AV.isCell, AV.isUndef, Nat.reduceEqDiff, Nat.reduceAdd, Nat.reduceSub, Nat.reduceLeDiff, Nat.reduceLT, reduceIte, reduceCtorEq, Nat.reduceBEq, k_app, k_slc1]) | (with_reducible refine gs (fun _ => ?_) (fun _ => ?_)) | (with_reducible refine cs_ (fun _ => ?_) (fun _ => ?_)) | (with_reducible refine objQ_i (fun _ _ => ?_); (repeat (with_reducible refine imp_i (fun _ => ?_)))) | (with_reducible refine appK_a ?_) | (with_reducible refine freshQ_i (fun _ _ => ?_)) | (with_reducible refine nilQ_i (fun _ _ => ?_))))
        refine ⟨_, St.le.refl _, ⟨A1, V1.drop d, V1.take d, U1 ++ C1, by simp, by rw [h1], rfl, by omega, by simp only [List.length_append, List.length_drop, List.length_take]; omega, by omega, by simp only [List.length_append, List.length_drop, List.length_take]; omega, ?_⟩, ?_⟩
        · rw [← List.append_assoc (V1.take _), List.take_append_drop]
        · have hmn : min d V1.length = d := by omega
          simp only [Int.toNat_natCast, List.length_take, List.length_drop, hmn]; omega
theorem getD_mid (A B : List α) (x : α) (i : Nat) (h : A.length = i) : (A ++ x :: B).getD i default = x := by
  subst h; simp [List.getD_eq_getElem?_getD]
theorem insertion (f : α → AV) (hok : ∀ x, okEl 3 (f x) = true) (hag : ∀ x, AV.agg (f x).cells = f x) {gf : Nat} {fs cs : List AV} (cf : α → α → Int) (o : SWO (ltB cf)) (hc : ∀ x y, VPure Try.prog gf (fs ++ [f x, f y] ++ cs) (.int .i64 (cf x y)))
    (st : St) (bb L c : Nat) (rest : List AV) (A M C : List α) (a b : Nat) (ha : A.length = a) (hb : A.length + M.length = b) (hL : (A ++ (M ++ C)).length = L) (hm : L ≤ 1000000000) :
    VCalls Try.prog Z 151 [.osl bb L c, .int .i64 a, .int .i64 b, .clo gf fs cs] (ob st bb f rest (A ++ (M ++ C)))
      (fun r s => r = .tup [] ∧ ∃ M', s = ob st bb f rest (A ++ (M' ++ C)) ∧ Srt (ltB cf) M' ∧ Stb (ltB cf) M M') := by
  have hlen : A.length + (M.length + C.length) = L := by rw [← hL]; simp
  have w1 : IntKind.i64.wrap ((a : Int) + 1) = ((a + 1 : Nat) : Int) := by rw [wrap_i64 _ (by omega) (by omega)]; omega
  refine VCalls.of v_slices_insertionSortCmpFunc_api_Seg_ok (Nat.le_of_ble_eq_true rfl) ?_
  simp only [v_slices_insertionSortCmpFunc_api_Seg, ↓vD, vU, VE.ev, VE.evs, retvs, tupOf, grab, vfill, vbsl, eqCells, eqCell, veqs, veqs1, vmnx, AV.isCell, AV.isUndef, Nat.reduceEqDiff, Nat.reduceAdd, Nat.reduceSub, Nat.reduceLeDiff, Nat.reduceLT, reduceIte, reduceCtorEq, Nat.reduceBEq, k_app, k_slc1]
  (repeat' (first | (simp (config := { maxDischargeDepth := 16 }) only [*, ↓vD, vU, VE.ev, VE.evs, retvs, tupOf, grab, vfill, vbsl, eqCells, eqCell, veqs, veqs1, vmnx, AV.isCell, AV.isUndef, Nat.reduceEqDiff, Nat.reduceAdd, Nat.reduceSub, Nat.reduceLeDiff, Nat.reduceLT, reduceIte, reduceCtorEq, Nat.reduceBEq, k_app, k_slc1]) | (with_reducible refine gs (fun _ => ?_) (fun _ => ?_)) | (with_reducible refine cs_ (fun _ => ?_) (fun _ => ?_)) | (with_reducible refine objQ_i (fun _ _ => ?_); (repeat (with_reducible refine imp_i (fun _ => ?_)))) | (with_reducible refine appK_a ?_) | (with_reducible refine freshQ_i (fun _ _ => ?_)) | (with_reducible refine nilQ_i (fun _ _ => ?_))))
  refine loopm_of (by simp only [asgL, dsts, List.cons_append, List.nil_append, List.append_nil]; rfl) (by simp only [noR, Bool.and_true, Bool.and_false]; rfl) (fun fr s => ∃ (i : Nat) (M1 : List α), s = ob st bb f rest (A ++ (M1 ++ (M.drop (i - a) ++ C))) ∧ fr.t 8 = .int .i64 i ∧ a < i ∧ i ≤ b + 1 ∧ (M1.length = i - a ∨ M.length = 0 ∧ M1 = []) ∧ Srt (ltB cf) M1 ∧ Stb (ltB cf) (M.take (i - a)) M1)
    (fun fr _ => b + 1 - (match fr.t 8 with | .int _ n => n.toNat | _ => 0)) ?_ ?_
  · refine ⟨a + 1, M.take 1, ?_, by simp [↓vD, vU, VE.ev, VE.evs, retvs, tupOf, grab, vfill, vbsl, eqCells, eqCell, veqs, veqs1, vmnx, AV.isCell, AV.isUndef, Nat.reduceEqDiff, Nat.reduceAdd, Nat.reduceSub, Nat.reduceLeDiff, Nat.reduceLT, reduceIte, reduceCtorEq, Nat.reduceBEq, k_app, k_slc1], by omega, by omega, ?_, ?_, ?_⟩
    · rw [Nat.add_sub_cancel_left, ← List.append_assoc (M.take 1), List.take_append_drop]
    · rw [Nat.add_sub_cancel_left]
      cases M with
      | nil => right; simp
      | cons x M => left; simp
    · cases M with
      | nil => exact Srt.nil
      | cons x M => exact Srt.one x
    · rw [Nat.add_sub_cancel_left]; exact Stb.refl _
  · rintro fr s hf hd ⟨i, M1, rfl, h8, hai, hib, hml, hsr, hst⟩
    by_cases hlt : i < b
    · have hl : i - a < M.length := by omega
      have e1 : decide ((i : Int) < b) = true := by simp; omega
      obtain ⟨x, hx⟩ : ∃ x, M[i - a] = x := ⟨_, rfl⟩
      have hxd : M.drop (i - a) = x :: M.drop (i + 1 - a) := by rw [List.drop_eq_getElem_cons hl, hx, show i + 1 - a = i - a + 1 by omega]
      have htk : M.take (i + 1 - a) = M.take (i - a) ++ [x] := by rw [show i + 1 - a = i - a + 1 by omega, List.take_succ_eq_append_getElem hl, hx]
      have hml1 : M1.length = i - a := by omega
      obtain ⟨R, hR⟩ : ∃ R, R = M.drop (i + 1 - a) ++ C := ⟨_, rfl⟩
      have hst0 : A ++ (M1 ++ (M.drop (i - a) ++ C)) = A ++ (M1 ++ (x :: ([] ++ R))) := by rw [hxd, hR]; simp
      have hRl : R.length + (i + 1) = L := by rw [hR]; simp only [List.length_append, List.length_drop]; omega
      rw [hst0]
      have hdone : ∀ P1 P2 : List α, P1.length + P2.length = i - a → Srt (ltB cf) (P1 ++ x :: P2) ∧ Stb (ltB cf) (M.take (i - a) ++ [x]) (P1 ++ x :: P2) → ∃ (i1 : Nat) (M2 : List α),
          ob st bb f rest (A ++ (P1 ++ (x :: (P2 ++ R)))) = ob st bb f rest (A ++ (M2 ++ (M.drop (i1 - a) ++ C))) ∧ (i : Int) + 1 = (i1 : Int) ∧ a < i1 ∧ i1 ≤ b + 1 ∧ (M2.length = i1 - a ∨ M.length = 0 ∧ M2 = []) ∧ Srt (ltB cf) M2 ∧ Stb (ltB cf) (M.take (i1 - a)) M2 := fun P1 P2 hl h =>
        ⟨i + 1, P1 ++ x :: P2, by rw [hR]; simp, by omega, by omega, by omega, .inl (by simp only [List.length_append, List.length_cons]; omega), h.1, by rw [htk]; exact h.2⟩
      have H := Hid.mk (And.intro hml1 (And.intro hlen hdone))
      clear hst0 hxd htk hml hR hlen hx hL w1 hml1 hdone
      have w2 : IntKind.i64.wrap ((i : Int) + 1) = (i : Int) + 1 := by rw [wrap_i64 _ (by omega) (by omega)]
      have hmi : b + 1 - ((i : Int) + 1).toNat < b + 1 - (i : Int).toNat := by omega
      (repeat' (first | (simp (config := { maxDischargeDepth := 16 }) only [*, ↓vD, vU, VE.ev, VE.evs, retvs, tupOf, grab, vfill, vbsl, eqCells, eqCell, veqs, veqs1, vmnx, AV.isCell, AV.isUndef, Nat.reduceEqDiff, Nat.reduceAdd, Nat.reduceSub, Nat.reduceLeDiff, Nat.reduceLT, reduceIte, reduceCtorEq, Nat.reduceBEq, k_app, k_slc1]) | (with_reducible refine gs (fun _ => ?_) (fun _ => ?_)) | (with_reducible refine cs_ (fun _ => ?_) (fun _ => ?_)) | (with_reducible refine objQ_i (fun _ _ => ?_); (repeat (with_reducible refine imp_i (fun _ => ?_)))) | (with_reducible refine appK_a ?_) | (with_reducible refine freshQ_i (fun _ _ => ?_)) | (with_reducible refine nilQ_i (fun _ _ => ?_))))
      refine loopm_of (by simp only [asgL, dsts, List.cons_append, List.nil_append, List.append_nil]; rfl) (by simp only [noR, Bool.and_true, Bool.and_false]; rfl) (fun fr2 s => ∃ P1 P2 : List α, s = ob st bb f rest (A ++ (P1 ++ (x :: (P2 ++ R)))) ∧ fr2.t 9 = .int .i64 ((a + P1.length : Nat) : Int) ∧ P1.length + P2.length = i - a ∧ Srt (ltB cf) (P1 ++ P2) ∧ Stb (ltB cf) (M.take (i - a)) (P1 ++ P2) ∧ ∀ z ∈ P2, ltB cf x z = true)
        (fun fr2 _ => (match fr2.t 9 with | .int _ n => n.toNat | _ => 0)) ?_ ?_
      · have := H.out.1
        exact ⟨M1, [], rfl, by simp [↓vD, vU, VE.ev, VE.evs, retvs, tupOf, grab, vfill, vbsl, eqCells, eqCell, veqs, veqs1, vmnx, AV.isCell, AV.isUndef, Nat.reduceEqDiff, Nat.reduceAdd, Nat.reduceSub, Nat.reduceLeDiff, Nat.reduceLT, reduceIte, reduceCtorEq, Nat.reduceBEq, k_app, k_slc1]; omega, by simp; omega, by simpa using hsr, by simpa using hst, by simp⟩
      · rintro fr2 s hf2 hd2 ⟨P1, P2, rfl, h9, hPP, hs1, hs2, hP2⟩
        rcases List.eq_nil_or_concat P1 with rfl | ⟨P, y, rfl⟩
        · have e2 : decide ((a : Int) < ((a + ([] : List α).length : Nat) : Int)) = false := by simp
          have hfin := H.out.2.2 [] P2 hPP (ins_done o hs1 hs2 hP2 (by simp))
          (repeat' (first | (simp (config := { maxDischargeDepth := 16 }) only [*, ↓vD, vU, VE.ev, VE.evs, retvs, tupOf, grab, vfill, vbsl, eqCells, eqCell, veqs, veqs1, vmnx, AV.isCell, AV.isUndef, Nat.reduceEqDiff, Nat.reduceAdd, Nat.reduceSub, Nat.reduceLeDiff, Nat.reduceLT, reduceIte, reduceCtorEq, Nat.reduceBEq, k_app, k_slc1]) | (with_reducible refine gs (fun _ => ?_) (fun _ => ?_)) | (with_reducible refine cs_ (fun _ => ?_) (fun _ => ?_)) | (with_reducible refine objQ_i (fun _ _ => ?_); (repeat (with_reducible refine imp_i (fun _ => ?_)))) | (with_reducible refine appK_a ?_) | (with_reducible refine freshQ_i (fun _ _ => ?_)) | (with_reducible refine nilQ_i (fun _ _ => ?_))))
          obtain ⟨i1, M2, hh⟩ := hfin
          exact ⟨_, St.le.refl _, i1, M2, hh⟩
        · obtain ⟨m, hmm⟩ : ∃ m, a + P.length = m := ⟨_, rfl⟩
          obtain ⟨j, hjm⟩ : ∃ j, m + 1 = j := ⟨_, rfl⟩
          have hj : a + (P.concat y).length = j := by simp; omega
          rw [hj] at h9
          have hl2 := H.out.2.1
          have hq : P.length + 1 + P2.length = i - a := by simpa using hPP
          have hlen2 : (A ++ (P.concat y ++ (x :: (P2 ++ R)))).length = L := by
            simp only [List.length_append, List.length_cons, List.concat_eq_append, List.length_nil]; omega
          obtain ⟨ys, hys⟩ : ∃ ys, ys = A ++ (P.concat y ++ (x :: (P2 ++ R))) := ⟨_, rfl⟩
          have gx : ys.getD j default = x := by
            rw [hys, ← List.append_assoc]; exact getD_mid _ _ _ _ (by simp; omega)
          have gy : ys.getD m default = y := by
            rw [hys, show A ++ (P.concat y ++ (x :: (P2 ++ R))) = (A ++ P) ++ y :: (x :: (P2 ++ R)) by simp]; exact getD_mid _ _ _ _ (by simp; omega)
          have gsw : (ys.set j y).set m x = A ++ (P ++ (x :: ((y :: P2) ++ R))) := by
            have h3 := swp_app (A ++ P) [] (P2 ++ R) y x
            have e3 : (A ++ P).length = m := by simp; omega
            have e4 : m + 1 + ([] : List α).length = j := by simp; omega
            rw [e3, e4, swp_comm _ _ _ (by omega)] at h3
            unfold swp at h3
            rw [show (A ++ P) ++ y :: ([] ++ x :: (P2 ++ R)) = ys by rw [hys]; simp, gx, gy] at h3
            rw [h3]; simp
          rw [← hys] at hlen2 ⊢
          have i1 : m < ys.length := by omega
          have i2 : j < ys.length := by omega
          have i3 : m < (ys.set j y).length := by simp; omega
          have i4 : m < L := by omega
          have i5 : j < L := by omega
          have e2 : decide ((a : Int) < (j : Int)) = true := by simp; omega
          have w3 : IntKind.i64.wrap ((j : Int) - 1) = (m : Int) := by rw [wrap_i64 _ (by omega) (by omega)]; omega
          have hld := ld f hok hag
          have hst' := sto f hok
          have HY := Hid.mk (And.intro hys (And.intro hj (And.intro hjm (And.intro hmm gsw))))
          clear hys hj hmm hjm gsw
          (repeat' (first | (simp (config := { maxDischargeDepth := 16 }) only [*, ob_iad, ↓vD, vU, VE.ev, VE.evs, retvs, tupOf, grab, vfill, vbsl, eqCells, eqCell, veqs, veqs1, vmnx, AV.isCell, AV.isUndef, Nat.reduceEqDiff, Nat.reduceAdd, Nat.reduceSub, Nat.reduceLeDiff, Nat.reduceLT, reduceIte, reduceCtorEq, Nat.reduceBEq, k_app, k_slc1]) | (with_reducible refine gs (fun _ => ?_) (fun _ => ?_)) | (with_reducible refine cs_ (fun _ => ?_) (fun _ => ?_)) | (with_reducible refine objQ_i (fun _ _ => ?_); (repeat (with_reducible refine imp_i (fun _ => ?_)))) | (with_reducible refine appK_a ?_) | (with_reducible refine freshQ_i (fun _ _ => ?_)) | (with_reducible refine nilQ_i (fun _ _ => ?_)) | (with_reducible first | refine callH_use (hc _ _) ?_ | refine pureQ_use (hc _ _) ?_)))
          · rename_i hcmp
            obtain ⟨hys, hj, hjm, hmm, gsw⟩ := HY.out
            refine ⟨_, St.le.refl _, ⟨P, y :: P2, by rw [gsw], by omega, by simp only [List.length_cons]; omega, by simpa using hs1, by simpa using hs2, fun z hz => ?_⟩, by omega⟩
            rcases List.mem_cons.1 hz with rfl | hz
            · exact hcmp
            · exact hP2 z hz
          · rename_i hcmp
            obtain ⟨hys, hj, hjm, hmm, gsw⟩ := HY.out
            have hs0 : Srt (ltB cf) (P ++ [y]) := by simpa using hs1.left
            obtain ⟨k1, M2, hh⟩ := H.out.2.2 (P.concat y) P2 hPP (ins_done o hs1 hs2 hP2 (by simpa using last_le o hs0 hcmp))
            rw [hys]
            exact ⟨_, St.le.refl _, k1, M2, hh⟩
          all_goals (exfalso; rename_i h; simp only [decide_eq_false_iff_not] at h; have := HY.out.2.2.1; have := HY.out.2.2.2.1; omega)
    · have e1 : decide ((i : Int) < b) = false := by simp; omega
      have hM : M.drop (i - a) = [] := List.drop_of_length_le (by omega)
      have hT : M.take (i - a) = M := List.take_of_length_le (by omega)
      rw [hT] at hst
      rw [hM]
      (repeat' (first | (simp (config := { maxDischargeDepth := 16 }) only [*, ↓vD, vU, VE.ev, VE.evs, retvs, tupOf, grab, vfill, vbsl, eqCells, eqCell, veqs, veqs1, vmnx, AV.isCell, AV.isUndef, Nat.reduceEqDiff, Nat.reduceAdd, Nat.reduceSub, Nat.reduceLeDiff, Nat.reduceLT, reduceIte, reduceCtorEq, Nat.reduceBEq, k_app, k_slc1]) | (with_reducible refine gs (fun _ => ?_) (fun _ => ?_)) | (with_reducible refine cs_ (fun _ => ?_) (fun _ => ?_)) | (with_reducible refine objQ_i (fun _ _ => ?_); (repeat (with_reducible refine imp_i (fun _ => ?_)))) | (with_reducible refine appK_a ?_) | (with_reducible refine freshQ_i (fun _ _ => ?_)) | (with_reducible refine nilQ_i (fun _ _ => ?_))))
      exact ⟨_, St.le.refl _, M1, rfl, hsr, hst⟩
def SymK (f : α → AV) (cf : α → α → Int) (st : St) (bb : Nat) (rest : List AV) (A U V C : List α) (r : AV) (s : St) : Prop := r = .tup [] ∧ ∃ M, s = ob st bb f rest (A ++ (M ++ C)) ∧ Srt (ltB cf) M ∧ Stb (ltB cf) (U ++ V) M
theorem sym_left (f : α → AV) (hok : ∀ x, okEl 3 (f x) = true) (hag : ∀ x, AV.agg (f x).cells = f x) {gf : Nat} {fs cs : List AV} (cf : α → α → Int) (o : SWO (ltB cf)) (hc : ∀ x y, VPure Try.prog gf (fs ++ [f x, f y] ++ cs) (.int .i64 (cf x y)))
    (st : St) (bb L c : Nat) (rest : List AV) (A V C : List α) (x : α) (a m b : Nat) (ha : A.length = a) (hm0 : a + 1 = m) (hb : m + V.length = b) (hV0 : 0 < V.length) (hV : Srt (ltB cf) V) (hL : (A ++ ([x] ++ (V ++ C))).length = L) (hm : L ≤ 1000000000) :
    VCalls Try.prog Z 152 [.osl bb L c, .int .i64 a, .int .i64 m, .int .i64 b, .clo gf fs cs] (ob st bb f rest (A ++ ([x] ++ (V ++ C)))) (SymK f cf st bb rest A [x] V C) := by
  have hlen : A.length + (1 + (V.length + C.length)) = L := by rw [← hL]; simp; omega
  obtain ⟨ys, hys⟩ : ∃ ys, ys = A ++ ([x] ++ (V ++ C)) := ⟨_, rfl⟩
  have hyl : ys.length = L := by rw [hys]; exact hL
  have eu : ys.getD a default = x := by rw [hys]; exact getD_mid _ _ _ _ ha
  have ev : ∀ t, m ≤ t → t < b → ys.getD t default = V.getD (t - m) default := fun t h1 h2 => by
    rw [hys, ← List.append_assoc, rd_app_mid (A ++ [x]) V C t (by simp; omega) (by simp; omega)]
    congr 1; simp; omega
  have mono : ∀ p q, m ≤ p → p ≤ q → q < b → ltB cf (V.getD (q - m) default) x = true → ltB cf (V.getD (p - m) default) x = true := fun p q h0 h1 h2 h3 => by
    by_cases hpq : p = q
    · rw [hpq]; exact h3
    · have h5 := srt_rd hV (p - m) (q - m) (by omega) (by omega)
      cases e : ltB cf (V.getD (p - m) default) x
      · rw [o.neg _ _ _ h5 e] at h3; cases h3
      · rfl
  have w1 : IntKind.i64.wrap ((m : Int) - a) = 1 := by rw [wrap_i64 _ (by omega) (by omega)]; omega
  have hla : a < ys.length := by omega
  have hlaL : a < L := by omega
  have hbL : b ≤ L := by omega
  have hld := ld f hok hag
  have hst' := sto f hok
  have HY := Hid.mk (And.intro hys (And.intro hlen (And.intro mono ev)))
  rw [← hys]
  clear hys hlen mono hL ev
  refine VCalls.of v_slices_symMergeCmpFunc_api_Seg_ok (Nat.le_of_ble_eq_true rfl) ?_
  simp only [v_slices_symMergeCmpFunc_api_Seg, ↓vD, vU, VE.ev, VE.evs, retvs, tupOf, grab, vfill, vbsl, eqCells, eqCell, veqs, veqs1, vmnx, AV.isCell, AV.isUndef, Nat.reduceEqDiff, Nat.reduceAdd, Nat.reduceSub, Nat.reduceLeDiff, Nat.reduceLT, reduceIte, reduceCtorEq, Nat.reduceBEq, k_app, k_slc1]
  (repeat' (first | (simp (config := { maxDischargeDepth := 16 }) only [*, ↓vD, vU, VE.ev, VE.evs, retvs, tupOf, grab, vfill, vbsl, eqCells, eqCell, veqs, veqs1, vmnx, AV.isCell, AV.isUndef, Nat.reduceEqDiff, Nat.reduceAdd, Nat.reduceSub, Nat.reduceLeDiff, Nat.reduceLT, reduceIte, reduceCtorEq, Nat.reduceBEq, k_app, k_slc1]) | (with_reducible refine gs (fun _ => ?_) (fun _ => ?_)) | (with_reducible refine cs_ (fun _ => ?_) (fun _ => ?_)) | (with_reducible refine objQ_i (fun _ _ => ?_); (repeat (with_reducible refine imp_i (fun _ => ?_)))) | (with_reducible refine appK_a ?_) | (with_reducible refine freshQ_i (fun _ _ => ?_)) | (with_reducible refine nilQ_i (fun _ _ => ?_))))
  refine loopm_of (by simp only [asgL, dsts, List.cons_append, List.nil_append, List.append_nil]; rfl) (by simp only [noR, Bool.and_true, Bool.and_false]; rfl) (fun fr s => ∃ i j : Nat, s = ob st bb f rest ys ∧ fr.t 10 = .int .i64 i ∧ fr.t 11 = .int .i64 j ∧ BX (fun t => ltB cf (V.getD (t - m) default) x) m b i j)
    (fun fr _ => (match fr.t 11 with | .int _ n => n.toNat | _ => 0) - (match fr.t 10 with | .int _ n => n.toNat | _ => 0)) ?_ ?_
  · exact ⟨m, b, rfl, by simp [↓vD, vU, VE.ev, VE.evs, retvs, tupOf, grab, vfill, vbsl, eqCells, eqCell, veqs, veqs1, vmnx, AV.isCell, AV.isUndef, Nat.reduceEqDiff, Nat.reduceAdd, Nat.reduceSub, Nat.reduceLeDiff, Nat.reduceLT, reduceIte, reduceCtorEq, Nat.reduceBEq, k_app, k_slc1], by simp [↓vD, vU, VE.ev, VE.evs, retvs, tupOf, grab, vfill, vbsl, eqCells, eqCell, veqs, veqs1, vmnx, AV.isCell, AV.isUndef, Nat.reduceEqDiff, Nat.reduceAdd, Nat.reduceSub, Nat.reduceLeDiff, Nat.reduceLT, reduceIte, reduceCtorEq, Nat.reduceBEq, k_app, k_slc1], BX.start _ (by omega)⟩
  · rintro fr s hf hd ⟨i, j, rfl, h10, h11, hbx⟩
    have b1 := hbx.li
    have b2 := hbx.ij
    have b3 := hbx.jh
    by_cases hlt : i < j
    · obtain ⟨n, hh, hhh, x1, x2, x3, x4⟩ := halves i j (by omega)
      have e1 : decide ((i : Int) < j) = true := by simp; omega
      have hk1 : hh < ys.length := by omega
      have hk2 : hh < L := by omega
      have gh := HY.out.2.2.2 hh (by omega) (by omega)
      have w2 := wrap_i64 ((hh : Int) + 1) (by omega) (by omega)
      have HH := Hid.mk hhh
      clear hhh
      (repeat' (first | (simp (config := { maxDischargeDepth := 16 }) only [*, ob_iad, ↓vD, vU, VE.ev, VE.evs, retvs, tupOf, grab, vfill, vbsl, eqCells, eqCell, veqs, veqs1, vmnx, AV.isCell, AV.isUndef, Nat.reduceEqDiff, Nat.reduceAdd, Nat.reduceSub, Nat.reduceLeDiff, Nat.reduceLT, reduceIte, reduceCtorEq, Nat.reduceBEq, k_app, k_slc1]) | (with_reducible refine gs (fun _ => ?_) (fun _ => ?_)) | (with_reducible refine cs_ (fun _ => ?_) (fun _ => ?_)) | (with_reducible refine objQ_i (fun _ _ => ?_); (repeat (with_reducible refine imp_i (fun _ => ?_)))) | (with_reducible refine appK_a ?_) | (with_reducible refine freshQ_i (fun _ _ => ?_)) | (with_reducible refine nilQ_i (fun _ _ => ?_)) | (with_reducible first | refine callH_use (hc _ _) ?_ | refine pureQ_use (hc _ _) ?_)))
      · rename_i hcmp
        exact ⟨_, St.le.refl _, ⟨hh + 1, j, rfl, by simp, rfl, hbx.up HY.out.2.2.1 HH.out hlt hcmp⟩, by have h0 := HH.out; have h1 : i ≤ hh := (by rw [h0]; omega); simp only [tn0, tn1]; exact Nat.sub_lt_sub_left hlt (Nat.lt_succ_of_le h1)⟩
      · rename_i hcmp
        exact ⟨_, St.le.refl _, ⟨i, hh, rfl, rfl, rfl, hbx.down HY.out.2.2.1 HH.out hlt hcmp⟩, by have := HH.out; simp only [tn0, tn1]; omega⟩
    · have e1 : decide ((i : Int) < j) = false := by simp; omega
      obtain ⟨r, hr⟩ : ∃ r, r + 1 = i := ⟨i - 1, by omega⟩
      have w2 : IntKind.i64.wrap ((i : Int) - 1) = (r : Int) := by rw [wrap_i64 _ (by omega) (by omega)]; omega
      have hfin := one_left o (x := x) hV (r - a) (fun z hz => by
        obtain ⟨p, hp1, hp2, rfl⟩ := mem_take_rd hz
        have := hbx.yes (m + p) (by omega) (by omega)
        simpa [Nat.add_sub_cancel_left] using this) (fun z hz => by
        obtain ⟨p, hp1, hp2, rfl⟩ := mem_drop_rd hz
        have := hbx.no (m + p) (by omega) (by omega)
        simpa [Nat.add_sub_cancel_left] using this)
      have hrL : r < L := by omega
      have hraL : a ≤ r := by omega
      have hrb : r + 1 ≤ b := by omega
      (repeat' (first | (simp (config := { maxDischargeDepth := 16 }) only [*, ↓vD, vU, VE.ev, VE.evs, retvs, tupOf, grab, vfill, vbsl, eqCells, eqCell, veqs, veqs1, vmnx, AV.isCell, AV.isUndef, Nat.reduceEqDiff, Nat.reduceAdd, Nat.reduceSub, Nat.reduceLeDiff, Nat.reduceLT, reduceIte, reduceCtorEq, Nat.reduceBEq, k_app, k_slc1]) | (with_reducible refine gs (fun _ => ?_) (fun _ => ?_)) | (with_reducible refine cs_ (fun _ => ?_) (fun _ => ?_)) | (with_reducible refine objQ_i (fun _ _ => ?_); (repeat (with_reducible refine imp_i (fun _ => ?_)))) | (with_reducible refine appK_a ?_) | (with_reducible refine freshQ_i (fun _ _ => ?_)) | (with_reducible refine nilQ_i (fun _ _ => ?_))))
      refine loopm_of (by simp only [asgL, dsts, List.cons_append, List.nil_append, List.append_nil]; rfl) (by simp only [noR, Bool.and_true, Bool.and_false]; rfl) (fun fr2 s => ∃ k : Nat, s = ob st bb f rest (A ++ (V.take (k - a) ++ (x :: (V.drop (k - a) ++ C)))) ∧ fr2.t 13 = .int .i64 k ∧ a ≤ k ∧ k ≤ r) (fun fr2 _ => r - (match fr2.t 13 with | .int _ n => n.toNat | _ => 0)) ?_ ?_
      · exact ⟨a, by rw [HY.out.1]; simp, by simp [↓vD, vU, VE.ev, VE.evs, retvs, tupOf, grab, vfill, vbsl, eqCells, eqCell, veqs, veqs1, vmnx, AV.isCell, AV.isUndef, Nat.reduceEqDiff, Nat.reduceAdd, Nat.reduceSub, Nat.reduceLeDiff, Nat.reduceLT, reduceIte, reduceCtorEq, Nat.reduceBEq, k_app, k_slc1], by omega, by omega⟩
      · rintro fr2 s hf2 hd2 ⟨k, rfl, h13, hak, hkr⟩
        by_cases hkl : k < r
        · have e2 : decide ((k : Int) < r) = true := by simp; omega
          obtain ⟨k1, hk1⟩ : ∃ k1, k + 1 = k1 := ⟨_, rfl⟩
          have w3 : IntKind.i64.wrap ((k : Int) + 1) = (k1 : Int) := by rw [wrap_i64 _ (by omega) (by omega)]; omega
          have hl2 := HY.out.2.1
          have hkV : k - a < V.length := by omega
          obtain ⟨y, hy⟩ : ∃ y, V[k - a] = y := ⟨_, rfl⟩
          have hvd : V.drop (k - a) = y :: V.drop (k1 - a) := by rw [List.drop_eq_getElem_cons hkV, hy, show k1 - a = k - a + 1 by omega]
          have hvt : V.take (k1 - a) = V.take (k - a) ++ [y] := by rw [show k1 - a = k - a + 1 by omega, List.take_succ_eq_append_getElem hkV, hy]
          obtain ⟨zs, hzs⟩ : ∃ zs, zs = A ++ (V.take (k - a) ++ (x :: (V.drop (k - a) ++ C))) := ⟨_, rfl⟩
          have hzl : zs.length = L := by rw [hzs]; simp only [List.length_append, List.length_take, List.length_cons, List.length_drop]; omega
          have g1 : zs.getD k default = x := by rw [hzs, ← List.append_assoc]; exact getD_mid _ _ _ _ (by simp; omega)
          have g2 : zs.getD k1 default = y := by
            rw [hzs, hvd, show A ++ (V.take (k - a) ++ (x :: (y :: V.drop (k1 - a) ++ C))) = (A ++ (V.take (k - a) ++ [x])) ++ y :: (V.drop (k1 - a) ++ C) by simp]
            exact getD_mid _ _ _ _ (by simp; omega)
          have gsw : (zs.set k y).set k1 x = A ++ (V.take (k1 - a) ++ (x :: (V.drop (k1 - a) ++ C))) := by
            have h3 := swp_app (A ++ V.take (k - a)) [] (V.drop (k1 - a) ++ C) x y
            have e3 : (A ++ V.take (k - a)).length = k := by simp; omega
            have e4 : k + 1 + ([] : List α).length = k1 := by simp; omega
            rw [e3, e4] at h3
            unfold swp at h3
            rw [show (A ++ V.take (k - a)) ++ x :: ([] ++ y :: (V.drop (k1 - a) ++ C)) = zs by rw [hzs, hvd]; simp, g1, g2] at h3
            rw [h3, hvt]; simp
          have i1 : k < zs.length := by omega
          have i2 : k1 < zs.length := by omega
          have i3 : k1 < (zs.set k y).length := by simp; omega
          have i4 : k < L := by omega
          have i5 : k1 < L := by omega
          rw [← hzs]
          have HG := Hid.mk (And.intro gsw hk1)
          clear gsw hzs hvd hvt hk1 hl2 hfin hbx hy
          (repeat' (first | (simp (config := { maxDischargeDepth := 16 }) only [*, ob_iad, ↓vD, vU, VE.ev, VE.evs, retvs, tupOf, grab, vfill, vbsl, eqCells, eqCell, veqs, veqs1, vmnx, AV.isCell, AV.isUndef, Nat.reduceEqDiff, Nat.reduceAdd, Nat.reduceSub, Nat.reduceLeDiff, Nat.reduceLT, reduceIte, reduceCtorEq, Nat.reduceBEq, k_app, k_slc1]) | (with_reducible refine gs (fun _ => ?_) (fun _ => ?_)) | (with_reducible refine cs_ (fun _ => ?_) (fun _ => ?_)) | (with_reducible refine objQ_i (fun _ _ => ?_); (repeat (with_reducible refine imp_i (fun _ => ?_)))) | (with_reducible refine appK_a ?_) | (with_reducible refine freshQ_i (fun _ _ => ?_)) | (with_reducible refine nilQ_i (fun _ _ => ?_))))
          exact ⟨_, St.le.refl _, ⟨k1, by rw [HG.out.1], rfl, by have := HG.out.2; omega, by have := HG.out.2; omega⟩, by have := HG.out.2; simp only [tn0, tn1]; omega⟩
        · have e2 : decide ((k : Int) < r) = false := by simp; omega
          have hkr' : k = r := by omega
          subst hkr'
          (repeat' (first | (simp (config := { maxDischargeDepth := 16 }) only [*, ↓vD, vU, VE.ev, VE.evs, retvs, tupOf, grab, vfill, vbsl, eqCells, eqCell, veqs, veqs1, vmnx, AV.isCell, AV.isUndef, Nat.reduceEqDiff, Nat.reduceAdd, Nat.reduceSub, Nat.reduceLeDiff, Nat.reduceLT, reduceIte, reduceCtorEq, Nat.reduceBEq, k_app, k_slc1]) | (with_reducible refine gs (fun _ => ?_) (fun _ => ?_)) | (with_reducible refine cs_ (fun _ => ?_) (fun _ => ?_)) | (with_reducible refine objQ_i (fun _ _ => ?_); (repeat (with_reducible refine imp_i (fun _ => ?_)))) | (with_reducible refine appK_a ?_) | (with_reducible refine freshQ_i (fun _ _ => ?_)) | (with_reducible refine nilQ_i (fun _ _ => ?_))))
          exact ⟨_, St.le.refl _, rfl, _, by rw [List.append_assoc, List.cons_append], hfin⟩
theorem sym_right (f : α → AV) (hok : ∀ x, okEl 3 (f x) = true) (hag : ∀ x, AV.agg (f x).cells = f x) {gf : Nat} {fs cs : List AV} (cf : α → α → Int) (o : SWO (ltB cf)) (hc : ∀ x y, VPure Try.prog gf (fs ++ [f x, f y] ++ cs) (.int .i64 (cf x y)))
    (st : St) (bb L c : Nat) (rest : List AV) (A U C : List α) (y : α) (a m b : Nat) (ha : A.length = a) (hm0 : a + U.length = m) (hb : m + 1 = b) (hU1 : 1 < U.length) (hU : Srt (ltB cf) U) (hL : (A ++ (U ++ ([y] ++ C))).length = L) (hm : L ≤ 1000000000) :
    VCalls Try.prog Z 152 [.osl bb L c, .int .i64 a, .int .i64 m, .int .i64 b, .clo gf fs cs] (ob st bb f rest (A ++ (U ++ ([y] ++ C)))) (SymK f cf st bb rest A U [y] C) := by
  have hlen : A.length + (U.length + (1 + C.length)) = L := by rw [← hL]; simp; omega
  obtain ⟨ys, hys⟩ : ∃ ys, ys = A ++ (U ++ ([y] ++ C)) := ⟨_, rfl⟩
  have hyl : ys.length = L := by rw [hys]; exact hL
  have eu : ys.getD m default = y := by rw [hys, ← List.append_assoc]; exact getD_mid _ _ _ _ (by simp; omega)
  have ev : ∀ t, a ≤ t → t < m → ys.getD t default = U.getD (t - a) default := fun t h1 h2 => by
    rw [hys, rd_app_mid A U ([y] ++ C) t (by omega) (by omega)]
    congr 1; omega
  have mono : ∀ p q, a ≤ p → p ≤ q → q < m → (!ltB cf y (U.getD (q - a) default)) = true → (!ltB cf y (U.getD (p - a) default)) = true := fun p q h0 h1 h2 h3 => by
    by_cases hpq : p = q
    · rw [hpq]; exact h3
    · have h5 := srt_rd hU (p - a) (q - a) (by omega) (by omega)
      simp only [Bool.not_eq_true'] at h3 ⊢
      exact o.neg _ _ _ h3 h5
  obtain ⟨u, hu⟩ : ∃ u, U.length = u := ⟨_, rfl⟩
  have w1 : IntKind.i64.wrap ((m : Int) - a) = (u : Int) := by rw [wrap_i64 _ (by omega) (by omega)]; omega
  have e0 : ((u : Int) == 1) = false := by simp; omega
  have w0 : IntKind.i64.wrap ((b : Int) - m) = 1 := by rw [wrap_i64 _ (by omega) (by omega)]; omega
  have hla : m < ys.length := by omega
  have hlaL : m < L := by omega
  have hld := ld f hok hag
  have hst' := sto f hok
  have HY := Hid.mk (And.intro hys (And.intro hlen (And.intro mono (And.intro ev hu))))
  rw [← hys]
  clear hys hlen mono hL ev hu
  refine VCalls.of v_slices_symMergeCmpFunc_api_Seg_ok (Nat.le_of_ble_eq_true rfl) ?_
  simp only [v_slices_symMergeCmpFunc_api_Seg, ↓vD, vU, VE.ev, VE.evs, retvs, tupOf, grab, vfill, vbsl, eqCells, eqCell, veqs, veqs1, vmnx, AV.isCell, AV.isUndef, Nat.reduceEqDiff, Nat.reduceAdd, Nat.reduceSub, Nat.reduceLeDiff, Nat.reduceLT, reduceIte, reduceCtorEq, Nat.reduceBEq, k_app, k_slc1]
  (repeat' (first | (simp (config := { maxDischargeDepth := 16 }) only [*, ↓vD, vU, VE.ev, VE.evs, retvs, tupOf, grab, vfill, vbsl, eqCells, eqCell, veqs, veqs1, vmnx, AV.isCell, AV.isUndef, Nat.reduceEqDiff, Nat.reduceAdd, Nat.reduceSub, Nat.reduceLeDiff, Nat.reduceLT, reduceIte, reduceCtorEq, Nat.reduceBEq, k_app, k_slc1]) | (with_reducible refine gs (fun _ => ?_) (fun _ => ?_)) | (with_reducible refine cs_ (fun _ => ?_) (fun _ => ?_)) | (with_reducible refine objQ_i (fun _ _ => ?_); (repeat (with_reducible refine imp_i (fun _ => ?_)))) | (with_reducible refine appK_a ?_) | (with_reducible refine freshQ_i (fun _ _ => ?_)) | (with_reducible refine nilQ_i (fun _ _ => ?_))))
  refine loopm_of (by simp only [asgL, dsts, List.cons_append, List.nil_append, List.append_nil]; rfl) (by simp only [noR, Bool.and_true, Bool.and_false]; rfl) (fun fr s => ∃ i j : Nat, s = ob st bb f rest ys ∧ fr.t 14 = .int .i64 i ∧ fr.t 15 = .int .i64 j ∧ BX (fun t => !ltB cf y (U.getD (t - a) default)) a m i j)
    (fun fr _ => (match fr.t 15 with | .int _ n => n.toNat | _ => 0) - (match fr.t 14 with | .int _ n => n.toNat | _ => 0)) ?_ ?_
  · exact ⟨a, m, rfl, by simp [↓vD, vU, VE.ev, VE.evs, retvs, tupOf, grab, vfill, vbsl, eqCells, eqCell, veqs, veqs1, vmnx, AV.isCell, AV.isUndef, Nat.reduceEqDiff, Nat.reduceAdd, Nat.reduceSub, Nat.reduceLeDiff, Nat.reduceLT, reduceIte, reduceCtorEq, Nat.reduceBEq, k_app, k_slc1], by simp [↓vD, vU, VE.ev, VE.evs, retvs, tupOf, grab, vfill, vbsl, eqCells, eqCell, veqs, veqs1, vmnx, AV.isCell, AV.isUndef, Nat.reduceEqDiff, Nat.reduceAdd, Nat.reduceSub, Nat.reduceLeDiff, Nat.reduceLT, reduceIte, reduceCtorEq, Nat.reduceBEq, k_app, k_slc1], BX.start _ (by omega)⟩
  · rintro fr s hf hd ⟨i, j, rfl, h10, h11, hbx⟩
    have b1 := hbx.li
    have b2 := hbx.ij
    have b3 := hbx.jh
    by_cases hlt : i < j
    · obtain ⟨n, hh, hhh, x1, x2, x3, x4⟩ := halves i j (by omega)
      have e1 : decide ((i : Int) < j) = true := by simp; omega
      have hk1 : hh < ys.length := by omega
      have hk2 : hh < L := by omega
      have gh := HY.out.2.2.2.1 hh (by omega) (by omega)
      have w2 := wrap_i64 ((hh : Int) + 1) (by omega) (by omega)
      have HH := Hid.mk hhh
      clear hhh
      (repeat' (first | (simp (config := { maxDischargeDepth := 16 }) only [*, ob_iad, ↓vD, vU, VE.ev, VE.evs, retvs, tupOf, grab, vfill, vbsl, eqCells, eqCell, veqs, veqs1, vmnx, AV.isCell, AV.isUndef, Nat.reduceEqDiff, Nat.reduceAdd, Nat.reduceSub, Nat.reduceLeDiff, Nat.reduceLT, reduceIte, reduceCtorEq, Nat.reduceBEq, k_app, k_slc1]) | (with_reducible refine gs (fun _ => ?_) (fun _ => ?_)) | (with_reducible refine cs_ (fun _ => ?_) (fun _ => ?_)) | (with_reducible refine objQ_i (fun _ _ => ?_); (repeat (with_reducible refine imp_i (fun _ => ?_)))) | (with_reducible refine appK_a ?_) | (with_reducible refine freshQ_i (fun _ _ => ?_)) | (with_reducible refine nilQ_i (fun _ _ => ?_)) | (with_reducible first | refine callH_use (hc _ _) ?_ | refine pureQ_use (hc _ _) ?_)))
      · rename_i hcmp
        exact ⟨_, St.le.refl _, ⟨hh + 1, j, rfl, by simp, rfl, hbx.up HY.out.2.2.1 HH.out hlt hcmp⟩, by have h0 := HH.out; have h1 : i ≤ hh := (by rw [h0]; omega); simp only [tn0, tn1]; exact Nat.sub_lt_sub_left hlt (Nat.lt_succ_of_le h1)⟩
      · rename_i hcmp
        exact ⟨_, St.le.refl _, ⟨i, hh, rfl, rfl, rfl, hbx.down HY.out.2.2.1 HH.out hlt hcmp⟩, by have := HH.out; simp only [tn0, tn1]; omega⟩
    · have e1 : decide ((i : Int) < j) = false := by simp; omega
      have hij : j = i := by omega
      subst hij
      have hul := HY.out.2.2.2.2
      have hfin := one_right o (y := y) hU (j - a) (fun z hz => by
        obtain ⟨p, hp1, hp2, rfl⟩ := mem_take_rd hz
        have := hbx.yes (a + p) (by omega) (by omega)
        simpa [Nat.add_sub_cancel_left] using this) (fun z hz => by
        obtain ⟨p, hp1, hp2, rfl⟩ := mem_drop_rd hz
        have := hbx.no (a + p) (by omega) (by omega)
        simpa [Nat.add_sub_cancel_left] using this)
      clear hul
      (repeat' (first | (simp (config := { maxDischargeDepth := 16 }) only [*, ↓vD, vU, VE.ev, VE.evs, retvs, tupOf, grab, vfill, vbsl, eqCells, eqCell, veqs, veqs1, vmnx, AV.isCell, AV.isUndef, Nat.reduceEqDiff, Nat.reduceAdd, Nat.reduceSub, Nat.reduceLeDiff, Nat.reduceLT, reduceIte, reduceCtorEq, Nat.reduceBEq, k_app, k_slc1]) | (with_reducible refine gs (fun _ => ?_) (fun _ => ?_)) | (with_reducible refine cs_ (fun _ => ?_) (fun _ => ?_)) | (with_reducible refine objQ_i (fun _ _ => ?_); (repeat (with_reducible refine imp_i (fun _ => ?_)))) | (with_reducible refine appK_a ?_) | (with_reducible refine freshQ_i (fun _ _ => ?_)) | (with_reducible refine nilQ_i (fun _ _ => ?_))))
      refine loopm_of (by simp only [asgL, dsts, List.cons_append, List.nil_append, List.append_nil]; rfl) (by simp only [noR, Bool.and_true, Bool.and_false]; rfl) (fun fr2 s => ∃ k : Nat, s = ob st bb f rest (A ++ (U.take (k - a) ++ (y :: (U.drop (k - a) ++ C)))) ∧ fr2.t 17 = .int .i64 k ∧ j ≤ k ∧ k ≤ m) (fun fr2 _ => (match fr2.t 17 with | .int _ n => n.toNat | _ => 0)) ?_ ?_
      · have hul := HY.out.2.2.2.2
        refine ⟨m, ?_, by simp [↓vD, vU, VE.ev, VE.evs, retvs, tupOf, grab, vfill, vbsl, eqCells, eqCell, veqs, veqs1, vmnx, AV.isCell, AV.isUndef, Nat.reduceEqDiff, Nat.reduceAdd, Nat.reduceSub, Nat.reduceLeDiff, Nat.reduceLT, reduceIte, reduceCtorEq, Nat.reduceBEq, k_app, k_slc1], by omega, by omega⟩
        rw [HY.out.1, List.take_of_length_le (by omega), List.drop_of_length_le (by omega)]; simp
      · rintro fr2 s hf2 hd2 ⟨k, rfl, h13, hak, hkr⟩
        by_cases hkl : j < k
        · have e2 : decide ((j : Int) < k) = true := by simp; omega
          obtain ⟨k1, hk1⟩ : ∃ k1, k1 + 1 = k := ⟨k - 1, by omega⟩
          have w3 : IntKind.i64.wrap ((k : Int) - 1) = (k1 : Int) := by rw [wrap_i64 _ (by omega) (by omega)]; omega
          have hl2 := HY.out.2.1
          have hul := HY.out.2.2.2.2
          have hkV : k1 - a < U.length := by omega
          obtain ⟨x, hx⟩ : ∃ x, U[k1 - a] = x := ⟨_, rfl⟩
          have hvd : U.drop (k1 - a) = x :: U.drop (k - a) := by rw [List.drop_eq_getElem_cons hkV, hx, show k - a = k1 - a + 1 by omega]
          have hvt : U.take (k - a) = U.take (k1 - a) ++ [x] := by rw [show k - a = k1 - a + 1 by omega, List.take_succ_eq_append_getElem hkV, hx]
          obtain ⟨zs, hzs⟩ : ∃ zs, zs = A ++ (U.take (k - a) ++ (y :: (U.drop (k - a) ++ C))) := ⟨_, rfl⟩
          have hzl : zs.length = L := by rw [hzs]; simp only [List.length_append, List.length_take, List.length_cons, List.length_drop]; omega
          have g1 : zs.getD k default = y := by rw [hzs, ← List.append_assoc]; exact getD_mid _ _ _ _ (by simp; omega)
          have g2 : zs.getD k1 default = x := by
            rw [hzs, hvt, show A ++ (U.take (k1 - a) ++ [x] ++ (y :: (U.drop (k - a) ++ C))) = (A ++ U.take (k1 - a)) ++ x :: (y :: (U.drop (k - a) ++ C)) by simp]
            exact getD_mid _ _ _ _ (by simp; omega)
          have gsw : (zs.set k x).set k1 y = A ++ (U.take (k1 - a) ++ (y :: (U.drop (k1 - a) ++ C))) := by
            have h3 := swp_app (A ++ U.take (k1 - a)) [] (U.drop (k - a) ++ C) x y
            have e3 : (A ++ U.take (k1 - a)).length = k1 := by simp; omega
            have e4 : k1 + 1 + ([] : List α).length = k := by simp; omega
            rw [e3, e4, swp_comm _ _ _ (by omega)] at h3
            unfold swp at h3
            rw [show (A ++ U.take (k1 - a)) ++ x :: ([] ++ y :: (U.drop (k - a) ++ C)) = zs by rw [hzs, hvt]; simp, g1, g2] at h3
            rw [h3, hvd]; simp
          have i1 : k < zs.length := by omega
          have i2 : k1 < zs.length := by omega
          have i3 : k1 < (zs.set k x).length := by simp; omega
          have i4 : k < L := by omega
          have i5 : k1 < L := by omega
          rw [← hzs]
          have HG := Hid.mk (And.intro gsw hk1)
          clear gsw hzs hvd hvt hk1 hl2 hfin hbx hx hul
          (repeat' (first | (simp (config := { maxDischargeDepth := 16 }) only [*, ob_iad, ↓vD, vU, VE.ev, VE.evs, retvs, tupOf, grab, vfill, vbsl, eqCells, eqCell, veqs, veqs1, vmnx, AV.isCell, AV.isUndef, Nat.reduceEqDiff, Nat.reduceAdd, Nat.reduceSub, Nat.reduceLeDiff, Nat.reduceLT, reduceIte, reduceCtorEq, Nat.reduceBEq, k_app, k_slc1]) | (with_reducible refine gs (fun _ => ?_) (fun _ => ?_)) | (with_reducible refine cs_ (fun _ => ?_) (fun _ => ?_)) | (with_reducible refine objQ_i (fun _ _ => ?_); (repeat (with_reducible refine imp_i (fun _ => ?_)))) | (with_reducible refine appK_a ?_) | (with_reducible refine freshQ_i (fun _ _ => ?_)) | (with_reducible refine nilQ_i (fun _ _ => ?_))))
          exact ⟨_, St.le.refl _, ⟨k1, by rw [HG.out.1], rfl, by have := HG.out.2; omega, by have := HG.out.2; omega⟩, by have := HG.out.2; simp only [tn0, tn1]; omega⟩
        · have e2 : decide ((j : Int) < k) = false := by simp; omega
          have hkr' : k = j := by omega
          subst hkr'
          (repeat' (first | (simp (config := { maxDischargeDepth := 16 }) only [*, ↓vD, vU, VE.ev, VE.evs, retvs, tupOf, grab, vfill, vbsl, eqCells, eqCell, veqs, veqs1, vmnx, AV.isCell, AV.isUndef, Nat.reduceEqDiff, Nat.reduceAdd, Nat.reduceSub, Nat.reduceLeDiff, Nat.reduceLT, reduceIte, reduceCtorEq, Nat.reduceBEq, k_app, k_slc1]) | (with_reducible refine gs (fun _ => ?_) (fun _ => ?_)) | (with_reducible refine cs_ (fun _ => ?_) (fun _ => ?_)) | (with_reducible refine objQ_i (fun _ _ => ?_); (repeat (with_reducible refine imp_i (fun _ => ?_)))) | (with_reducible refine appK_a ?_) | (with_reducible refine freshQ_i (fun _ _ => ?_)) | (with_reducible refine nilQ_i (fun _ _ => ?_))))
          exact ⟨_, St.le.refl _, rfl, _, by rw [List.append_assoc, List.cons_append], hfin⟩
/-- What the cut of two sorted rows shows. -/
theorem cut_facts {lt : α → α → Bool} (o : SWO lt) {ys U V : List α} {a m b mid lo hi s en : Nat} (hu : a + U.length = m) (hv : m + V.length = b) (hmid : mid = (a + b) / 2)
    (eu : ∀ t, a ≤ t → t < m → ys.getD t default = U.getD (t - a) default) (ev : ∀ t, m ≤ t → t < b → ys.getD t default = V.getD (t - m) default) (hU : Srt lt U) (hV : Srt lt V)
    (hlo : lo = a ∨ lo + b = mid + m) (hhi : hi = m ∨ hi = mid) (l1 : a ≤ lo) (l2 : mid + m ≤ lo + b) (l3 : hi ≤ m) (l4 : hi ≤ mid) (hen : en + s = mid + m)
    (hB : BX (fun t => !lt (ys.getD (mid + m - 1 - t) default) (ys.getD t default)) lo hi s s) :
    (∀ x ∈ U.take (s - a), ∀ y ∈ V.drop (en - m), lt y x = false) ∧ (∀ x ∈ U.drop (s - a), ∀ y ∈ V.take (en - m), lt y x = true) := by
  have b1 := hB.li
  have b2 := hB.jh
  constructor
  · intro x hx y hy2
    obtain ⟨p, hp, hpl, rfl⟩ := mem_take_rd hx
    obtain ⟨q, hq, hql, rfl⟩ := mem_drop_rd hy2
    have h1 := hB.yes (s - 1) (by omega) (by omega)
    have h2 : U.getD p default = ys.getD (a + p) default := by rw [eu _ (by omega) (by omega)]; congr 1; omega
    have h3 : V.getD q default = ys.getD (m + q) default := by rw [ev _ (by omega) (by omega)]; congr 1; omega
    rw [h2, h3]
    have h4 : lt (ys.getD (s - 1) default) (ys.getD (a + p) default) = false := by
      by_cases e : s - 1 = a + p
      · rw [e]; exact o.irr _
      · rw [eu _ (by omega) (by omega), eu (a + p) (by omega) (by omega)]
        exact srt_rd hU _ _ (by omega) (by omega)
    have h5 : lt (ys.getD (m + q) default) (ys.getD (mid + m - 1 - (s - 1)) default) = false := by
      by_cases e : m + q = mid + m - 1 - (s - 1)
      · rw [← e]; exact o.irr _
      · rw [ev (m + q) (by omega) (by omega), ev (mid + m - 1 - (s - 1)) (by omega) (by omega)]
        exact srt_rd hV _ _ (by omega) (by omega)
    exact o.neg _ _ _ (o.neg _ _ _ h5 (by simpa using h1)) h4
  · intro x hx y hy2
    obtain ⟨p, hp, hpl, rfl⟩ := mem_drop_rd hx
    obtain ⟨q, hq, hql, rfl⟩ := mem_take_rd hy2
    have h1 := hB.no s (by omega) (by omega)
    have h2 : U.getD p default = ys.getD (a + p) default := by rw [eu _ (by omega) (by omega)]; congr 1; omega
    have h3 : V.getD q default = ys.getD (m + q) default := by rw [ev _ (by omega) (by omega)]; congr 1; omega
    rw [h2, h3]
    have h4 : lt (ys.getD (a + p) default) (ys.getD s default) = false := by
      by_cases e : s = a + p
      · rw [e]; exact o.irr _
      · rw [eu (a + p) (by omega) (by omega), eu s (by omega) (by omega)]
        exact srt_rd hU _ _ (by omega) (by omega)
    have h5 : lt (ys.getD (mid + m - 1 - s) default) (ys.getD (m + q) default) = false := by
      by_cases e : m + q = mid + m - 1 - s
      · rw [e]; exact o.irr _
      · rw [ev (m + q) (by omega) (by omega), ev (mid + m - 1 - s) (by omega) (by omega)]
        exact srt_rd hV _ _ (by omega) (by omega)
    have h6 : lt (ys.getD (mid + m - 1 - s) default) (ys.getD s default) = true := by simpa using h1
    cases e : lt (ys.getD (m + q) default) (ys.getD (a + p) default)
    · rw [o.neg _ _ _ h5 (o.neg _ _ _ e h4)] at h6; cases h6
    · rfl
theorem mono_mid {lt : α → α → Bool} (o : SWO lt) {ys U V : List α} {a m b mid : Nat} (hu : a + U.length = m) (hv : m + V.length = b) (hmid : mid = (a + b) / 2)
    (eu : ∀ t, a ≤ t → t < m → ys.getD t default = U.getD (t - a) default) (ev : ∀ t, m ≤ t → t < b → ys.getD t default = V.getD (t - m) default) (hU : Srt lt U) (hV : Srt lt V) :
    ∀ p q, a ≤ p → mid + m ≤ p + b → p ≤ q → q < m → q < mid → (!lt (ys.getD (mid + m - 1 - q) default) (ys.getD q default)) = true → (!lt (ys.getD (mid + m - 1 - p) default) (ys.getD p default)) = true := fun p q h0 h1 h2 h3 h3b h4 => by
  by_cases hpq : p = q
  · rw [hpq]; exact h4
  · have h5 := srt_rd hU (p - a) (q - a) (by omega) (by omega)
    have h6 := srt_rd hV (mid + m - 1 - q - m) (mid + m - 1 - p - m) (by omega) (by omega)
    rw [← eu p (by omega) (by omega), ← eu q (by omega) (by omega)] at h5
    rw [← ev (mid + m - 1 - q) (by omega) (by omega), ← ev (mid + m - 1 - p) (by omega) (by omega)] at h6
    have h7 := o.neg _ _ _ (o.neg _ _ _ h6 (by simpa using h4)) h5
    rw [h7]; rfl
end Go.Proofs.Ytddbnncimggogaa.V.SoSeg
end
section
set_option linter.unusedSimpArgs false
set_option linter.unusedVariables false
/- slices.SortStableFunc at livery/api.Seg: the merge of two rows, the whole. -/
namespace Go.Proofs.Ytddbnncimggogaa.V.SoSeg
open Go Go.Proofs Go.Proofs.Ytddbnncimggogaa.SP
set_option maxRecDepth 100000
variable {α : Type} [Inhabited α] {Z : Im}
set_option maxHeartbeats 8000000 in
theorem sym_mid (f : α → AV) (hok : ∀ x, okEl 3 (f x) = true) (hag : ∀ x, AV.agg (f x).cells = f x) {gf : Nat} {fs cs : List AV} (cf : α → α → Int) (o : SWO (ltB cf)) (hc : ∀ x y, VPure Try.prog gf (fs ++ [f x, f y] ++ cs) (.int .i64 (cf x y)))
    (st : St) (bb L c : Nat) (rest : List AV) (d : Nat)
    (ih : ∀ (a m b : Nat) (A U V C : List α), A.length = a → a + U.length = m → m + V.length = b → 0 < U.length → 0 < V.length → Srt (ltB cf) U → Srt (ltB cf) V → (A ++ (U ++ (V ++ C))).length = L → U.length + V.length ≤ d →
      VCalls Try.prog Z 152 [.osl bb L c, .int .i64 a, .int .i64 m, .int .i64 b, .clo gf fs cs] (ob st bb f rest (A ++ (U ++ (V ++ C)))) (SymK f cf st bb rest A U V C))
    (A U V C : List α) (a m b : Nat) (ha : A.length = a) (hm0 : a + U.length = m) (hb : m + V.length = b) (hU1 : 1 < U.length) (hV1 : 1 < V.length) (hU : Srt (ltB cf) U) (hV : Srt (ltB cf) V) (hL : (A ++ (U ++ (V ++ C))).length = L) (hm : L ≤ 1000000000) (hd : U.length + V.length ≤ d + 1) :
    VCalls Try.prog Z 152 [.osl bb L c, .int .i64 a, .int .i64 m, .int .i64 b, .clo gf fs cs] (ob st bb f rest (A ++ (U ++ (V ++ C)))) (SymK f cf st bb rest A U V C) := by
  have hlen : A.length + (U.length + (V.length + C.length)) = L := by rw [← hL]; simp
  obtain ⟨ys, hys⟩ : ∃ ys, ys = A ++ (U ++ (V ++ C)) := ⟨_, rfl⟩
  have hyl : ys.length = L := by rw [hys]; exact hL
  have eu : ∀ t, a ≤ t → t < m → ys.getD t default = U.getD (t - a) default := fun t h1 h2 => by
    rw [hys, rd_app_mid A U (V ++ C) t (by omega) (by omega)]; congr 1; omega
  have ev : ∀ t, m ≤ t → t < b → ys.getD t default = V.getD (t - m) default := fun t h1 h2 => by
    rw [hys, ← List.append_assoc, rd_app_mid (A ++ U) V C t (by simp; omega) (by simp; omega)]
    congr 1; simp; omega
  obtain ⟨n0, mid, hmid, x1, x2, x3, x4⟩ := halves a b (by omega)
  have mono := mono_mid o hm0 hb hmid eu ev hU hV
  obtain ⟨u, hu⟩ : ∃ u, U.length = u := ⟨_, rfl⟩
  obtain ⟨v, hv⟩ : ∃ v, V.length = v := ⟨_, rfl⟩
  obtain ⟨n, hn⟩ : ∃ n, mid + m = n := ⟨_, rfl⟩
  have y1 : IntKind.i64.wrap ((m : Int) - a) = (u : Int) := by rw [wrap_i64 _ (by omega) (by omega)]; omega
  have y2 : IntKind.i64.wrap ((b : Int) - m) = (v : Int) := by rw [wrap_i64 _ (by omega) (by omega)]; omega
  have y3 : IntKind.i64.wrap ((mid : Int) + m) = (n : Int) := by rw [wrap_i64 _ (by omega) (by omega)]; omega
  have z1 : ((u : Int) == 1) = false := by simp; omega
  have z2 : ((v : Int) == 1) = false := by simp; omega
  obtain ⟨p, hp⟩ : ∃ p, p + 1 = n := ⟨n - 1, by omega⟩
  have y4 : IntKind.i64.wrap ((n : Int) - 1) = (p : Int) := by rw [wrap_i64 _ (by omega) (by omega)]; omega
  have hld := ld f hok hag
  have ham : a + 2 ≤ m := by omega
  have hmb : m + 2 ≤ b := by omega
  have hbL : b ≤ L := by omega
  obtain ⟨lo, hi, h1, h2, h3, h4, h5, h6, h7, hcase⟩ : ∃ lo hi : Nat, a ≤ lo ∧ n ≤ lo + b ∧ hi ≤ m ∧ hi ≤ mid ∧ lo ≤ hi ∧ (lo = a ∨ lo + b = n) ∧ (hi = m ∨ hi = mid) ∧
      ((mid < m ∧ IntKind.i64.wrap ((n : Int) - b) = (lo : Int) ∧ mid = hi) ∨ (¬ mid < m ∧ a = lo ∧ m = hi)) := by
    by_cases e : mid < m
    · exact ⟨n - b, mid, by omega, by omega, by omega, by omega, by omega, by omega, .inr rfl, .inl ⟨e, by rw [wrap_i64 _ (by omega) (by omega)]; omega, rfl⟩⟩
    · exact ⟨a, m, by omega, by omega, by omega, by omega, by omega, .inl rfl, .inl rfl, .inr ⟨e, rfl, rfl⟩⟩
  have HY := Hid.mk (And.intro hys (And.intro hlen (And.intro mono (And.intro eu (And.intro ev (And.intro hu (And.intro hv (And.intro hn (And.intro hp (And.intro hmid (And.intro h6 (And.intro h7 (And.intro hm0 (And.intro hb hd))))))))))))))
  have HIH := Hid.mk ih
  rw [← hys]
  clear hys hlen mono hL eu ev hu hv hn hp hmid h6 h7 hm0 hb ih hd
  refine VCalls.of v_slices_symMergeCmpFunc_api_Seg_ok (Nat.le_of_ble_eq_true rfl) ?_
  simp only [v_slices_symMergeCmpFunc_api_Seg, ↓vD, vU, VE.ev, VE.evs, retvs, tupOf, grab, vfill, vbsl, eqCells, eqCell, veqs, veqs1, vmnx, AV.isCell, AV.isUndef, Nat.reduceEqDiff, Nat.reduceAdd, Nat.reduceSub, Nat.reduceLeDiff, Nat.reduceLT, reduceIte, reduceCtorEq, Nat.reduceBEq, k_app, k_slc1]
  have hcase' := Hid.mk hcase
  rcases hcase with ⟨e0, w0, hE⟩ | ⟨e0, hE1, hE2⟩
  · have HE := Hid.mk hE
    clear hE
    (repeat' (first | (simp (config := { maxDischargeDepth := 16 }) only [*, ↓vD, vU, VE.ev, VE.evs, retvs, tupOf, grab, vfill, vbsl, eqCells, eqCell, veqs, veqs1, vmnx, AV.isCell, AV.isUndef, Nat.reduceEqDiff, Nat.reduceAdd, Nat.reduceSub, Nat.reduceLeDiff, Nat.reduceLT, reduceIte, reduceCtorEq, Nat.reduceBEq, k_app, k_slc1]) | (with_reducible refine gs (fun _ => ?_) (fun _ => ?_)) | (with_reducible refine cs_ (fun _ => ?_) (fun _ => ?_)) | (with_reducible refine objQ_i (fun _ _ => ?_); (repeat (with_reducible refine imp_i (fun _ => ?_)))) | (with_reducible refine appK_a ?_) | (with_reducible refine freshQ_i (fun _ _ => ?_)) | (with_reducible refine nilQ_i (fun _ _ => ?_))))
    refine loopm_of (by simp only [asgL, dsts, List.cons_append, List.nil_append, List.append_nil]; rfl) (by simp only [noR, Bool.and_true, Bool.and_false]; rfl) (fun fr s => ∃ s1 r1 : Nat, s = ob st bb f rest ys ∧ fr.t 20 = .int .i64 s1 ∧ fr.t 21 = .int .i64 r1 ∧ BX (fun t => !ltB cf (ys.getD (mid + m - 1 - t) default) (ys.getD t default)) lo hi s1 r1)
      (fun fr _ => (match fr.t 21 with | .int _ n => n.toNat | _ => 0) - (match fr.t 20 with | .int _ n => n.toNat | _ => 0)) ?_ ?_
    · exact ⟨lo, hi, rfl, by simp [↓vD, vU, VE.ev, VE.evs, retvs, tupOf, grab, vfill, vbsl, eqCells, eqCell, veqs, veqs1, vmnx, AV.isCell, AV.isUndef, Nat.reduceEqDiff, Nat.reduceAdd, Nat.reduceSub, Nat.reduceLeDiff, Nat.reduceLT, reduceIte, reduceCtorEq, Nat.reduceBEq, k_app, k_slc1], (by simp [↓vD, vU, VE.ev, VE.evs, retvs, tupOf, grab, vfill, vbsl, eqCells, eqCell, veqs, veqs1, vmnx, AV.isCell, AV.isUndef, Nat.reduceEqDiff, Nat.reduceAdd, Nat.reduceSub, Nat.reduceLeDiff, Nat.reduceLT, reduceIte, reduceCtorEq, Nat.reduceBEq, k_app, k_slc1]; rw [HE.out]), BX.start _ h5⟩
    · rintro fr s hf hdd ⟨s1, r1, rfl, h20, h21, hbx⟩
      have b1 := hbx.li
      have b2 := hbx.ij
      have b3 := hbx.jh
      by_cases hlt : s1 < r1
      · obtain ⟨n1, hh, hhh, q1, q2, q3, q4⟩ := halves s1 r1 (by omega)
        have e1 : decide ((s1 : Int) < r1) = true := by simp; omega
        obtain ⟨hys, hlen, mono, eu, ev, hu, hv, hn, hp, hmid, h6, h7, hm0, hb, hd⟩ := HY.out
        obtain ⟨pc, hpc⟩ : ∃ pc, pc + hh = p := ⟨p - hh, by omega⟩
        have q5 : IntKind.i64.wrap ((p : Int) - hh) = (pc : Int) := by rw [wrap_i64 _ (by omega) (by omega)]; omega
        have q6 := wrap_i64 ((hh : Int) + 1) (by omega) (by omega)
        have i1 : hh < ys.length := by omega
        have i2 : hh < L := by omega
        have i3 : pc < ys.length := by omega
        have i4 : pc < L := by omega
        have hidx : mid + m - 1 - hh = pc := by omega
        have hmn : ∀ p q, lo ≤ p → p ≤ q → q < hi → (fun t => !ltB cf (ys.getD (mid + m - 1 - t) default) (ys.getD t default)) q = true → (fun t => !ltB cf (ys.getD (mid + m - 1 - t) default) (ys.getD t default)) p = true := fun p q k1 k2 k3 k4 => mono p q (by omega) (by omega) k2 (by omega) (by omega) k4
        have HU := Hid.mk (And.intro (fun (hp : (!ltB cf (ys.getD pc default) (ys.getD hh default)) = true) => hbx.up hmn hhh hlt (show (!ltB cf (ys.getD (mid + m - 1 - hh) default) (ys.getD hh default)) = true by rw [hidx]; exact hp)) (fun (hp : (!ltB cf (ys.getD pc default) (ys.getD hh default)) = false) => hbx.down hmn hhh hlt (show (!ltB cf (ys.getD (mid + m - 1 - hh) default) (ys.getD hh default)) = false by rw [hidx]; exact hp)))
        have hs1 : s1 ≤ hh := by rw [hhh]; omega
        have hs2 : hh < r1 := by rw [hhh]; omega
        clear hys hlen mono eu ev hu hv hn hp hmid h6 h7 hm0 hb hd hpc hidx hmn hhh
        (repeat' (first | (simp (config := { maxDischargeDepth := 16 }) only [*, ob_iad, ↓vD, vU, VE.ev, VE.evs, retvs, tupOf, grab, vfill, vbsl, eqCells, eqCell, veqs, veqs1, vmnx, AV.isCell, AV.isUndef, Nat.reduceEqDiff, Nat.reduceAdd, Nat.reduceSub, Nat.reduceLeDiff, Nat.reduceLT, reduceIte, reduceCtorEq, Nat.reduceBEq, k_app, k_slc1]) | (with_reducible refine gs (fun _ => ?_) (fun _ => ?_)) | (with_reducible refine cs_ (fun _ => ?_) (fun _ => ?_)) | (with_reducible refine objQ_i (fun _ _ => ?_); (repeat (with_reducible refine imp_i (fun _ => ?_)))) | (with_reducible refine appK_a ?_) | (with_reducible refine freshQ_i (fun _ _ => ?_)) | (with_reducible refine nilQ_i (fun _ _ => ?_)) | (with_reducible first | refine callH_use (hc _ _) ?_ | refine pureQ_use (hc _ _) ?_)))
        · rename_i hcmp
          exact ⟨_, St.le.refl _, ⟨hh + 1, r1, rfl, by simp, rfl, HU.out.1 hcmp⟩, by simp only [tn0, tn1]; exact Nat.sub_lt_sub_left hlt (Nat.lt_succ_of_le hs1)⟩
        · rename_i hcmp
          exact ⟨_, St.le.refl _, ⟨s1, hh, rfl, rfl, rfl, HU.out.2 hcmp⟩, by simp only [tn0, tn1]; omega⟩
      · have hr : r1 = s1 := by omega
        rw [hr] at hbx h21
        clear hr b1 b2 b3 hlt
        have b1 := hbx.li
        have b3 := hbx.jh
        obtain ⟨hys, hlen, mono, eu, ev, hu, hv, hn, hp, hmid, h6, h7, hm0, hb, hd⟩ := HY.out
        obtain ⟨en, hen⟩ : ∃ en, en + s1 = n := ⟨n - s1, by omega⟩
        have q1 : IntKind.i64.wrap ((n : Int) - s1) = (en : Int) := by rw [wrap_i64 _ (by omega) (by omega)]; omega
        obtain ⟨c1, c2⟩ := cut_facts o hm0 hb hmid eu ev hU hV (by omega) h7 h1 (by omega) h3 h4 (show en + s1 = mid + m by omega) hbx
        obtain ⟨l1, hl1⟩ : ∃ l1, U.take (s1 - a) = l1 := ⟨_, rfl⟩
        obtain ⟨l2, hl2⟩ : ∃ l2, U.drop (s1 - a) = l2 := ⟨_, rfl⟩
        obtain ⟨w1, hw1⟩ : ∃ w1, V.take (en - m) = w1 := ⟨_, rfl⟩
        obtain ⟨w2, hw2⟩ : ∃ w2, V.drop (en - m) = w2 := ⟨_, rfl⟩
        rw [hl1, hw2] at c1
        rw [hl2, hw1] at c2
        have hUs : l1 ++ l2 = U := by rw [← hl1, ← hl2, List.take_append_drop]
        have hVs : w1 ++ w2 = V := by rw [← hw1, ← hw2, List.take_append_drop]
        have n1 : a + l1.length = s1 := by rw [← hl1, List.length_take]; omega
        have n2 : s1 + l2.length = m := by rw [← hl2, List.length_drop]; omega
        have n3 : m + w1.length = en := by rw [← hw1, List.length_take]; omega
        have n4 : en + w2.length = b := by rw [← hw2, List.length_drop]; omega
        have sU : Srt (ltB cf) (l1 ++ l2) := by rw [hUs]; exact hU
        have sV : Srt (ltB cf) (w1 ++ w2) := by rw [hVs]; exact hV
        have hys' : ys = A ++ (l1 ++ (l2 ++ (w1 ++ (w2 ++ C)))) := by rw [hys, ← hUs, ← hVs]; simp
        have HF : ∀ M1 M2 : List α, Srt (ltB cf) M1 → Srt (ltB cf) M2 → Stb (ltB cf) (l1 ++ w1) M1 → Stb (ltB cf) (l2 ++ w2) M2 → Srt (ltB cf) (M1 ++ M2) ∧ Stb (ltB cf) (U ++ V) (M1 ++ M2) := fun M1 M2 a1 a2 a3 a4 => by
          rw [← hUs, ← hVs]; exact merge_cut o sU sV c1 c2 a1 a2 a3 a4
        have HR : s1 < m → m < en → VCalls Try.prog Z 156 [.osl bb L c, .int .i64 s1, .int .i64 m, .int .i64 en, .clo gf fs cs] (ob st bb f rest ys) (fun r s => r = .tup [] ∧ s = ob st bb f rest (A ++ (l1 ++ (w1 ++ (l2 ++ (w2 ++ C)))))) := fun k1 k2 => by
          have := rotate (Z := Z) f hok hag st bb L c rest (.clo gf fs cs) (A ++ l1) l2 w1 (w2 ++ C) s1 m en (by simp; omega) (by simp; omega) (by simp; omega) (by omega) (by omega) (by simp; omega) hm
          rw [hys']; simpa only [List.append_assoc] using this
        have HR0 : ¬ (s1 < m ∧ m < en) → ys = A ++ (l1 ++ (w1 ++ (l2 ++ (w2 ++ C)))) := fun k => by
          rw [hys']
          by_cases e : s1 < m
          · have : w1 = [] := List.eq_nil_of_length_eq_zero (by omega)
            rw [this]; simp
          · have : l2 = [] := List.eq_nil_of_length_eq_zero (by omega)
            rw [this]; simp
        have H1 : a < s1 → s1 < mid → VCalls Try.prog Z 152 [.osl bb L c, .int .i64 a, .int .i64 s1, .int .i64 mid, .clo gf fs cs] (ob st bb f rest (A ++ (l1 ++ (w1 ++ (l2 ++ (w2 ++ C)))))) (SymK f cf st bb rest A l1 w1 (l2 ++ (w2 ++ C))) := fun k1 k2 =>
          HIH.out a s1 mid A l1 w1 (l2 ++ (w2 ++ C)) ha n1 (by omega) (by omega) (by omega) sU.left sV.left (by simp; omega) (by omega)
        have H1n : ¬ (a < s1 ∧ s1 < mid) → Srt (ltB cf) (l1 ++ w1) := fun k => by
          by_cases e : a < s1
          · have : w1 = [] := List.eq_nil_of_length_eq_zero (by omega)
            rw [this, List.append_nil]; exact sU.left
          · have : l1 = [] := List.eq_nil_of_length_eq_zero (by omega)
            rw [this, List.nil_append]; exact sV.left
        have H2 : ∀ M1 : List α, l1.length + w1.length = M1.length → mid < en → en < b → VCalls Try.prog Z 152 [.osl bb L c, .int .i64 mid, .int .i64 en, .int .i64 b, .clo gf fs cs] (ob st bb f rest (A ++ (M1 ++ (l2 ++ (w2 ++ C))))) (SymK f cf st bb rest (A ++ M1) l2 w2 C) := fun M1 k0 k1 k2 => by
          have := HIH.out mid en b (A ++ M1) l2 w2 C (by simp; omega) (by omega) (by omega) (by omega) (by omega) sU.right sV.right (by simp; omega) (by omega)
          simpa only [List.append_assoc] using this
        have H2n : ¬ (mid < en ∧ en < b) → Srt (ltB cf) (l2 ++ w2) := fun k => by
          by_cases e : mid < en
          · have : w2 = [] := List.eq_nil_of_length_eq_zero (by omega)
            rw [this, List.append_nil]; exact sU.right
          · have : l2 = [] := List.eq_nil_of_length_eq_zero (by omega)
            rw [this, List.nil_append]; exact sV.right
        have kAD : s1 < m ↔ mid < en := by omega
        have kBC : m < en ↔ s1 < mid := by omega
        have HZ := Hid.mk (And.intro HF (And.intro HR (And.intro HR0 (And.intro H1 (And.intro H1n (And.intro H2 (And.intro H2n (And.intro kAD kBC))))))))
        clear hys hlen mono eu ev hu hv hn hp hmid h6 h7 hm0 hb hd hen c1 c2 hl1 hl2 hw1 hw2 hUs hVs n1 n2 n3 n4 sU sV hys' HF HR HR0 H1 H1n H2 H2n kAD kBC hbx
        by_cases kA : s1 < m
        · by_cases kB : m < en
          · by_cases k3 : a < s1
            · by_cases k6 : en < b
              · have kD : mid < en := HZ.out.2.2.2.2.2.2.2.1.1 kA
                have kC : s1 < mid := HZ.out.2.2.2.2.2.2.2.2.1 kB
                (repeat' (first | (simp (config := { maxDischargeDepth := 16 }) only [*, ↓vD, vU, VE.ev, VE.evs, retvs, tupOf, grab, vfill, vbsl, eqCells, eqCell, veqs, veqs1, vmnx, AV.isCell, AV.isUndef, Nat.reduceEqDiff, Nat.reduceAdd, Nat.reduceSub, Nat.reduceLeDiff, Nat.reduceLT, reduceIte, reduceCtorEq, Nat.reduceBEq, k_app, k_slc1]) | (with_reducible refine gs (fun _ => ?_) (fun _ => ?_)) | (with_reducible refine cs_ (fun _ => ?_) (fun _ => ?_)) | (with_reducible refine objQ_i (fun _ _ => ?_); (repeat (with_reducible refine imp_i (fun _ => ?_)))) | (with_reducible refine appK_a ?_) | (with_reducible refine freshQ_i (fun _ _ => ?_)) | (with_reducible refine nilQ_i (fun _ _ => ?_))))
                refine callH_then (HZ.out.2.1 kA kB) ?_
                rintro _ _ ⟨rfl, rfl⟩
                (repeat' (first | (simp (config := { maxDischargeDepth := 16 }) only [*, ↓vD, vU, VE.ev, VE.evs, retvs, tupOf, grab, vfill, vbsl, eqCells, eqCell, veqs, veqs1, vmnx, AV.isCell, AV.isUndef, Nat.reduceEqDiff, Nat.reduceAdd, Nat.reduceSub, Nat.reduceLeDiff, Nat.reduceLT, reduceIte, reduceCtorEq, Nat.reduceBEq, k_app, k_slc1]) | (with_reducible refine gs (fun _ => ?_) (fun _ => ?_)) | (with_reducible refine cs_ (fun _ => ?_) (fun _ => ?_)) | (with_reducible refine objQ_i (fun _ _ => ?_); (repeat (with_reducible refine imp_i (fun _ => ?_)))) | (with_reducible refine appK_a ?_) | (with_reducible refine freshQ_i (fun _ _ => ?_)) | (with_reducible refine nilQ_i (fun _ _ => ?_))))
                refine callH_then (HZ.out.2.2.2.1 k3 kC) ?_
                rintro _ _ ⟨rfl, M1, rfl, t1, t2⟩
                have hM1 : l1.length + w1.length = M1.length := by simpa using t2.1
                have T := Hid.mk (And.intro t1 (And.intro t2 hM1))
                clear t1 t2 hM1
                (repeat' (first | (simp (config := { maxDischargeDepth := 16 }) only [*, ↓vD, vU, VE.ev, VE.evs, retvs, tupOf, grab, vfill, vbsl, eqCells, eqCell, veqs, veqs1, vmnx, AV.isCell, AV.isUndef, Nat.reduceEqDiff, Nat.reduceAdd, Nat.reduceSub, Nat.reduceLeDiff, Nat.reduceLT, reduceIte, reduceCtorEq, Nat.reduceBEq, k_app, k_slc1]) | (with_reducible refine gs (fun _ => ?_) (fun _ => ?_)) | (with_reducible refine cs_ (fun _ => ?_) (fun _ => ?_)) | (with_reducible refine objQ_i (fun _ _ => ?_); (repeat (with_reducible refine imp_i (fun _ => ?_)))) | (with_reducible refine appK_a ?_) | (with_reducible refine freshQ_i (fun _ _ => ?_)) | (with_reducible refine nilQ_i (fun _ _ => ?_))))
                have hH2 := HZ.out.2.2.2.2.2.1 M1 T.out.2.2 kD k6
                refine callH_then hH2 ?_
                rintro _ _ ⟨rfl, M2, rfl, t3, t4⟩
                have T2 := Hid.mk (And.intro t3 t4)
                clear t3 t4 hH2
                (repeat' (first | (simp (config := { maxDischargeDepth := 16 }) only [*, ↓vD, vU, VE.ev, VE.evs, retvs, tupOf, grab, vfill, vbsl, eqCells, eqCell, veqs, veqs1, vmnx, AV.isCell, AV.isUndef, Nat.reduceEqDiff, Nat.reduceAdd, Nat.reduceSub, Nat.reduceLeDiff, Nat.reduceLT, reduceIte, reduceCtorEq, Nat.reduceBEq, k_app, k_slc1]) | (with_reducible refine gs (fun _ => ?_) (fun _ => ?_)) | (with_reducible refine cs_ (fun _ => ?_) (fun _ => ?_)) | (with_reducible refine objQ_i (fun _ _ => ?_); (repeat (with_reducible refine imp_i (fun _ => ?_)))) | (with_reducible refine appK_a ?_) | (with_reducible refine freshQ_i (fun _ _ => ?_)) | (with_reducible refine nilQ_i (fun _ _ => ?_))))
                exact ⟨_, St.le.refl _, rfl, M1 ++ M2, by simp, HZ.out.1 _ _ T.out.1 T2.out.1 T.out.2.1 T2.out.2⟩
              · have kD : mid < en := HZ.out.2.2.2.2.2.2.2.1.1 kA
                have kC : s1 < mid := HZ.out.2.2.2.2.2.2.2.2.1 kB
                (repeat' (first | (simp (config := { maxDischargeDepth := 16 }) only [*, ↓vD, vU, VE.ev, VE.evs, retvs, tupOf, grab, vfill, vbsl, eqCells, eqCell, veqs, veqs1, vmnx, AV.isCell, AV.isUndef, Nat.reduceEqDiff, Nat.reduceAdd, Nat.reduceSub, Nat.reduceLeDiff, Nat.reduceLT, reduceIte, reduceCtorEq, Nat.reduceBEq, k_app, k_slc1]) | (with_reducible refine gs (fun _ => ?_) (fun _ => ?_)) | (with_reducible refine cs_ (fun _ => ?_) (fun _ => ?_)) | (with_reducible refine objQ_i (fun _ _ => ?_); (repeat (with_reducible refine imp_i (fun _ => ?_)))) | (with_reducible refine appK_a ?_) | (with_reducible refine freshQ_i (fun _ _ => ?_)) | (with_reducible refine nilQ_i (fun _ _ => ?_))))
                refine callH_then (HZ.out.2.1 kA kB) ?_
                rintro _ _ ⟨rfl, rfl⟩
                (repeat' (first | (simp (config := { maxDischargeDepth := 16 }) only [*, ↓vD, vU, VE.ev, VE.evs, retvs, tupOf, grab, vfill, vbsl, eqCells, eqCell, veqs, veqs1, vmnx, AV.isCell, AV.isUndef, Nat.reduceEqDiff, Nat.reduceAdd, Nat.reduceSub, Nat.reduceLeDiff, Nat.reduceLT, reduceIte, reduceCtorEq, Nat.reduceBEq, k_app, k_slc1]) | (with_reducible refine gs (fun _ => ?_) (fun _ => ?_)) | (with_reducible refine cs_ (fun _ => ?_) (fun _ => ?_)) | (with_reducible refine objQ_i (fun _ _ => ?_); (repeat (with_reducible refine imp_i (fun _ => ?_)))) | (with_reducible refine appK_a ?_) | (with_reducible refine freshQ_i (fun _ _ => ?_)) | (with_reducible refine nilQ_i (fun _ _ => ?_))))
                refine callH_then (HZ.out.2.2.2.1 k3 kC) ?_
                rintro _ _ ⟨rfl, M1, rfl, t1, t2⟩
                have hM1 : l1.length + w1.length = M1.length := by simpa using t2.1
                have T := Hid.mk (And.intro t1 (And.intro t2 hM1))
                clear t1 t2 hM1
                (repeat' (first | (simp (config := { maxDischargeDepth := 16 }) only [*, ↓vD, vU, VE.ev, VE.evs, retvs, tupOf, grab, vfill, vbsl, eqCells, eqCell, veqs, veqs1, vmnx, AV.isCell, AV.isUndef, Nat.reduceEqDiff, Nat.reduceAdd, Nat.reduceSub, Nat.reduceLeDiff, Nat.reduceLT, reduceIte, reduceCtorEq, Nat.reduceBEq, k_app, k_slc1]) | (with_reducible refine gs (fun _ => ?_) (fun _ => ?_)) | (with_reducible refine cs_ (fun _ => ?_) (fun _ => ?_)) | (with_reducible refine objQ_i (fun _ _ => ?_); (repeat (with_reducible refine imp_i (fun _ => ?_)))) | (with_reducible refine appK_a ?_) | (with_reducible refine freshQ_i (fun _ _ => ?_)) | (with_reducible refine nilQ_i (fun _ _ => ?_))))
                exact ⟨_, St.le.refl _, rfl, M1 ++ (l2 ++ w2), by simp, HZ.out.1 _ _ T.out.1 (HZ.out.2.2.2.2.2.2.1 (fun h => k6 h.2)) T.out.2.1 (Stb.refl _)⟩
            · by_cases k6 : en < b
              · have kD : mid < en := HZ.out.2.2.2.2.2.2.2.1.1 kA
                have kC : s1 < mid := HZ.out.2.2.2.2.2.2.2.2.1 kB
                (repeat' (first | (simp (config := { maxDischargeDepth := 16 }) only [*, ↓vD, vU, VE.ev, VE.evs, retvs, tupOf, grab, vfill, vbsl, eqCells, eqCell, veqs, veqs1, vmnx, AV.isCell, AV.isUndef, Nat.reduceEqDiff, Nat.reduceAdd, Nat.reduceSub, Nat.reduceLeDiff, Nat.reduceLT, reduceIte, reduceCtorEq, Nat.reduceBEq, k_app, k_slc1]) | (with_reducible refine gs (fun _ => ?_) (fun _ => ?_)) | (with_reducible refine cs_ (fun _ => ?_) (fun _ => ?_)) | (with_reducible refine objQ_i (fun _ _ => ?_); (repeat (with_reducible refine imp_i (fun _ => ?_)))) | (with_reducible refine appK_a ?_) | (with_reducible refine freshQ_i (fun _ _ => ?_)) | (with_reducible refine nilQ_i (fun _ _ => ?_))))
                refine callH_then (HZ.out.2.1 kA kB) ?_
                rintro _ _ ⟨rfl, rfl⟩
                (repeat' (first | (simp (config := { maxDischargeDepth := 16 }) only [*, ↓vD, vU, VE.ev, VE.evs, retvs, tupOf, grab, vfill, vbsl, eqCells, eqCell, veqs, veqs1, vmnx, AV.isCell, AV.isUndef, Nat.reduceEqDiff, Nat.reduceAdd, Nat.reduceSub, Nat.reduceLeDiff, Nat.reduceLT, reduceIte, reduceCtorEq, Nat.reduceBEq, k_app, k_slc1]) | (with_reducible refine gs (fun _ => ?_) (fun _ => ?_)) | (with_reducible refine cs_ (fun _ => ?_) (fun _ => ?_)) | (with_reducible refine objQ_i (fun _ _ => ?_); (repeat (with_reducible refine imp_i (fun _ => ?_)))) | (with_reducible refine appK_a ?_) | (with_reducible refine freshQ_i (fun _ _ => ?_)) | (with_reducible refine nilQ_i (fun _ _ => ?_))))
                have hH2 := HZ.out.2.2.2.2.2.1 (l1 ++ w1) (by simp) kD k6
                rw [List.append_assoc] at hH2
                refine callH_then hH2 ?_
                rintro _ _ ⟨rfl, M2, rfl, t3, t4⟩
                have T2 := Hid.mk (And.intro t3 t4)
                clear t3 t4 hH2
                (repeat' (first | (simp (config := { maxDischargeDepth := 16 }) only [*, ↓vD, vU, VE.ev, VE.evs, retvs, tupOf, grab, vfill, vbsl, eqCells, eqCell, veqs, veqs1, vmnx, AV.isCell, AV.isUndef, Nat.reduceEqDiff, Nat.reduceAdd, Nat.reduceSub, Nat.reduceLeDiff, Nat.reduceLT, reduceIte, reduceCtorEq, Nat.reduceBEq, k_app, k_slc1]) | (with_reducible refine gs (fun _ => ?_) (fun _ => ?_)) | (with_reducible refine cs_ (fun _ => ?_) (fun _ => ?_)) | (with_reducible refine objQ_i (fun _ _ => ?_); (repeat (with_reducible refine imp_i (fun _ => ?_)))) | (with_reducible refine appK_a ?_) | (with_reducible refine freshQ_i (fun _ _ => ?_)) | (with_reducible refine nilQ_i (fun _ _ => ?_))))
                exact ⟨_, St.le.refl _, rfl, (l1 ++ w1) ++ M2, by simp, HZ.out.1 _ _ (HZ.out.2.2.2.2.1 (fun h => k3 h.1)) T2.out.1 (Stb.refl _) T2.out.2⟩
              · have kD : mid < en := HZ.out.2.2.2.2.2.2.2.1.1 kA
                have kC : s1 < mid := HZ.out.2.2.2.2.2.2.2.2.1 kB
                (repeat' (first | (simp (config := { maxDischargeDepth := 16 }) only [*, ↓vD, vU, VE.ev, VE.evs, retvs, tupOf, grab, vfill, vbsl, eqCells, eqCell, veqs, veqs1, vmnx, AV.isCell, AV.isUndef, Nat.reduceEqDiff, Nat.reduceAdd, Nat.reduceSub, Nat.reduceLeDiff, Nat.reduceLT, reduceIte, reduceCtorEq, Nat.reduceBEq, k_app, k_slc1]) | (with_reducible refine gs (fun _ => ?_) (fun _ => ?_)) | (with_reducible refine cs_ (fun _ => ?_) (fun _ => ?_)) | (with_reducible refine objQ_i (fun _ _ => ?_); (repeat (with_reducible refine imp_i (fun _ => ?_)))) | (with_reducible refine appK_a ?_) | (with_reducible refine freshQ_i (fun _ _ => ?_)) | (with_reducible refine nilQ_i (fun _ _ => ?_))))
                refine callH_then (HZ.out.2.1 kA kB) ?_
                rintro _ _ ⟨rfl, rfl⟩
                (repeat' (first | (simp (config := { maxDischargeDepth := 16 }) only [*, ↓vD, vU, VE.ev, VE.evs, retvs, tupOf, grab, vfill, vbsl, eqCells, eqCell, veqs, veqs1, vmnx, AV.isCell, AV.isUndef, Nat.reduceEqDiff, Nat.reduceAdd, Nat.reduceSub, Nat.reduceLeDiff, Nat.reduceLT, reduceIte, reduceCtorEq, Nat.reduceBEq, k_app, k_slc1]) | (with_reducible refine gs (fun _ => ?_) (fun _ => ?_)) | (with_reducible refine cs_ (fun _ => ?_) (fun _ => ?_)) | (with_reducible refine objQ_i (fun _ _ => ?_); (repeat (with_reducible refine imp_i (fun _ => ?_)))) | (with_reducible refine appK_a ?_) | (with_reducible refine freshQ_i (fun _ _ => ?_)) | (with_reducible refine nilQ_i (fun _ _ => ?_))))
                exact ⟨_, St.le.refl _, rfl, (l1 ++ w1) ++ (l2 ++ w2), by simp, HZ.out.1 _ _ (HZ.out.2.2.2.2.1 (fun h => k3 h.1)) (HZ.out.2.2.2.2.2.2.1 (fun h => k6 h.2)) (Stb.refl _) (Stb.refl _)⟩
          · by_cases k3 : a < s1
            · by_cases k6 : en < b
              · have kD : mid < en := HZ.out.2.2.2.2.2.2.2.1.1 kA
                have kC : ¬ s1 < mid := fun h => kB (HZ.out.2.2.2.2.2.2.2.2.2 h)
                rw [HZ.out.2.2.1 (fun h => kB h.2)]
                (repeat' (first | (simp (config := { maxDischargeDepth := 16 }) only [*, ↓vD, vU, VE.ev, VE.evs, retvs, tupOf, grab, vfill, vbsl, eqCells, eqCell, veqs, veqs1, vmnx, AV.isCell, AV.isUndef, Nat.reduceEqDiff, Nat.reduceAdd, Nat.reduceSub, Nat.reduceLeDiff, Nat.reduceLT, reduceIte, reduceCtorEq, Nat.reduceBEq, k_app, k_slc1]) | (with_reducible refine gs (fun _ => ?_) (fun _ => ?_)) | (with_reducible refine cs_ (fun _ => ?_) (fun _ => ?_)) | (with_reducible refine objQ_i (fun _ _ => ?_); (repeat (with_reducible refine imp_i (fun _ => ?_)))) | (with_reducible refine appK_a ?_) | (with_reducible refine freshQ_i (fun _ _ => ?_)) | (with_reducible refine nilQ_i (fun _ _ => ?_))))
                have hH2 := HZ.out.2.2.2.2.2.1 (l1 ++ w1) (by simp) kD k6
                rw [List.append_assoc] at hH2
                refine callH_then hH2 ?_
                rintro _ _ ⟨rfl, M2, rfl, t3, t4⟩
                have T2 := Hid.mk (And.intro t3 t4)
                clear t3 t4 hH2
                (repeat' (first | (simp (config := { maxDischargeDepth := 16 }) only [*, ↓vD, vU, VE.ev, VE.evs, retvs, tupOf, grab, vfill, vbsl, eqCells, eqCell, veqs, veqs1, vmnx, AV.isCell, AV.isUndef, Nat.reduceEqDiff, Nat.reduceAdd, Nat.reduceSub, Nat.reduceLeDiff, Nat.reduceLT, reduceIte, reduceCtorEq, Nat.reduceBEq, k_app, k_slc1]) | (with_reducible refine gs (fun _ => ?_) (fun _ => ?_)) | (with_reducible refine cs_ (fun _ => ?_) (fun _ => ?_)) | (with_reducible refine objQ_i (fun _ _ => ?_); (repeat (with_reducible refine imp_i (fun _ => ?_)))) | (with_reducible refine appK_a ?_) | (with_reducible refine freshQ_i (fun _ _ => ?_)) | (with_reducible refine nilQ_i (fun _ _ => ?_))))
                exact ⟨_, St.le.refl _, rfl, (l1 ++ w1) ++ M2, by simp, HZ.out.1 _ _ (HZ.out.2.2.2.2.1 (fun h => kC h.2)) T2.out.1 (Stb.refl _) T2.out.2⟩
              · have kD : mid < en := HZ.out.2.2.2.2.2.2.2.1.1 kA
                have kC : ¬ s1 < mid := fun h => kB (HZ.out.2.2.2.2.2.2.2.2.2 h)
                rw [HZ.out.2.2.1 (fun h => kB h.2)]
                (repeat' (first | (simp (config := { maxDischargeDepth := 16 }) only [*, ↓vD, vU, VE.ev, VE.evs, retvs, tupOf, grab, vfill, vbsl, eqCells, eqCell, veqs, veqs1, vmnx, AV.isCell, AV.isUndef, Nat.reduceEqDiff, Nat.reduceAdd, Nat.reduceSub, Nat.reduceLeDiff, Nat.reduceLT, reduceIte, reduceCtorEq, Nat.reduceBEq, k_app, k_slc1]) | (with_reducible refine gs (fun _ => ?_) (fun _ => ?_)) | (with_reducible refine cs_ (fun _ => ?_) (fun _ => ?_)) | (with_reducible refine objQ_i (fun _ _ => ?_); (repeat (with_reducible refine imp_i (fun _ => ?_)))) | (with_reducible refine appK_a ?_) | (with_reducible refine freshQ_i (fun _ _ => ?_)) | (with_reducible refine nilQ_i (fun _ _ => ?_))))
                exact ⟨_, St.le.refl _, rfl, (l1 ++ w1) ++ (l2 ++ w2), by simp, HZ.out.1 _ _ (HZ.out.2.2.2.2.1 (fun h => kC h.2)) (HZ.out.2.2.2.2.2.2.1 (fun h => k6 h.2)) (Stb.refl _) (Stb.refl _)⟩
            · by_cases k6 : en < b
              · have kD : mid < en := HZ.out.2.2.2.2.2.2.2.1.1 kA
                have kC : ¬ s1 < mid := fun h => kB (HZ.out.2.2.2.2.2.2.2.2.2 h)
                rw [HZ.out.2.2.1 (fun h => kB h.2)]
                (repeat' (first | (simp (config := { maxDischargeDepth := 16 }) only [*, ↓vD, vU, VE.ev, VE.evs, retvs, tupOf, grab, vfill, vbsl, eqCells, eqCell, veqs, veqs1, vmnx, AV.isCell, AV.isUndef, Nat.reduceEqDiff, Nat.reduceAdd, Nat.reduceSub, Nat.reduceLeDiff, Nat.reduceLT, reduceIte, reduceCtorEq, Nat.reduceBEq, k_app, k_slc1]) | (with_reducible refine gs (fun _ => ?_) (fun _ => ?_)) | (with_reducible refine cs_ (fun _ => ?_) (fun _ => ?_)) | (with_reducible refine objQ_i (fun _ _ => ?_); (repeat (with_reducible refine imp_i (fun _ => ?_)))) | (with_reducible refine appK_a ?_) | (with_reducible refine freshQ_i (fun _ _ => ?_)) | (with_reducible refine nilQ_i (fun _ _ => ?_))))
                have hH2 := HZ.out.2.2.2.2.2.1 (l1 ++ w1) (by simp) kD k6
                rw [List.append_assoc] at hH2
                refine callH_then hH2 ?_
                rintro _ _ ⟨rfl, M2, rfl, t3, t4⟩
                have T2 := Hid.mk (And.intro t3 t4)
                clear t3 t4 hH2
                (repeat' (first | (simp (config := { maxDischargeDepth := 16 }) only [*, ↓vD, vU, VE.ev, VE.evs, retvs, tupOf, grab, vfill, vbsl, eqCells, eqCell, veqs, veqs1, vmnx, AV.isCell, AV.isUndef, Nat.reduceEqDiff, Nat.reduceAdd, Nat.reduceSub, Nat.reduceLeDiff, Nat.reduceLT, reduceIte, reduceCtorEq, Nat.reduceBEq, k_app, k_slc1]) | (with_reducible refine gs (fun _ => ?_) (fun _ => ?_)) | (with_reducible refine cs_ (fun _ => ?_) (fun _ => ?_)) | (with_reducible refine objQ_i (fun _ _ => ?_); (repeat (with_reducible refine imp_i (fun _ => ?_)))) | (with_reducible refine appK_a ?_) | (with_reducible refine freshQ_i (fun _ _ => ?_)) | (with_reducible refine nilQ_i (fun _ _ => ?_))))
                exact ⟨_, St.le.refl _, rfl, (l1 ++ w1) ++ M2, by simp, HZ.out.1 _ _ (HZ.out.2.2.2.2.1 (fun h => kC h.2)) T2.out.1 (Stb.refl _) T2.out.2⟩
              · have kD : mid < en := HZ.out.2.2.2.2.2.2.2.1.1 kA
                have kC : ¬ s1 < mid := fun h => kB (HZ.out.2.2.2.2.2.2.2.2.2 h)
                rw [HZ.out.2.2.1 (fun h => kB h.2)]
                (repeat' (first | (simp (config := { maxDischargeDepth := 16 }) only [*, ↓vD, vU, VE.ev, VE.evs, retvs, tupOf, grab, vfill, vbsl, eqCells, eqCell, veqs, veqs1, vmnx, AV.isCell, AV.isUndef, Nat.reduceEqDiff, Nat.reduceAdd, Nat.reduceSub, Nat.reduceLeDiff, Nat.reduceLT, reduceIte, reduceCtorEq, Nat.reduceBEq, k_app, k_slc1]) | (with_reducible refine gs (fun _ => ?_) (fun _ => ?_)) | (with_reducible refine cs_ (fun _ => ?_) (fun _ => ?_)) | (with_reducible refine objQ_i (fun _ _ => ?_); (repeat (with_reducible refine imp_i (fun _ => ?_)))) | (with_reducible refine appK_a ?_) | (with_reducible refine freshQ_i (fun _ _ => ?_)) | (with_reducible refine nilQ_i (fun _ _ => ?_))))
                exact ⟨_, St.le.refl _, rfl, (l1 ++ w1) ++ (l2 ++ w2), by simp, HZ.out.1 _ _ (HZ.out.2.2.2.2.1 (fun h => kC h.2)) (HZ.out.2.2.2.2.2.2.1 (fun h => k6 h.2)) (Stb.refl _) (Stb.refl _)⟩
        · by_cases kB : m < en
          · by_cases k3 : a < s1
            · by_cases k6 : en < b
              · have kD : ¬ mid < en := fun h => kA (HZ.out.2.2.2.2.2.2.2.1.2 h)
                have kC : s1 < mid := HZ.out.2.2.2.2.2.2.2.2.1 kB
                rw [HZ.out.2.2.1 (fun h => kA h.1)]
                (repeat' (first | (simp (config := { maxDischargeDepth := 16 }) only [*, ↓vD, vU, VE.ev, VE.evs, retvs, tupOf, grab, vfill, vbsl, eqCells, eqCell, veqs, veqs1, vmnx, AV.isCell, AV.isUndef, Nat.reduceEqDiff, Nat.reduceAdd, Nat.reduceSub, Nat.reduceLeDiff, Nat.reduceLT, reduceIte, reduceCtorEq, Nat.reduceBEq, k_app, k_slc1]) | (with_reducible refine gs (fun _ => ?_) (fun _ => ?_)) | (with_reducible refine cs_ (fun _ => ?_) (fun _ => ?_)) | (with_reducible refine objQ_i (fun _ _ => ?_); (repeat (with_reducible refine imp_i (fun _ => ?_)))) | (with_reducible refine appK_a ?_) | (with_reducible refine freshQ_i (fun _ _ => ?_)) | (with_reducible refine nilQ_i (fun _ _ => ?_))))
                refine callH_then (HZ.out.2.2.2.1 k3 kC) ?_
                rintro _ _ ⟨rfl, M1, rfl, t1, t2⟩
                have hM1 : l1.length + w1.length = M1.length := by simpa using t2.1
                have T := Hid.mk (And.intro t1 (And.intro t2 hM1))
                clear t1 t2 hM1
                (repeat' (first | (simp (config := { maxDischargeDepth := 16 }) only [*, ↓vD, vU, VE.ev, VE.evs, retvs, tupOf, grab, vfill, vbsl, eqCells, eqCell, veqs, veqs1, vmnx, AV.isCell, AV.isUndef, Nat.reduceEqDiff, Nat.reduceAdd, Nat.reduceSub, Nat.reduceLeDiff, Nat.reduceLT, reduceIte, reduceCtorEq, Nat.reduceBEq, k_app, k_slc1]) | (with_reducible refine gs (fun _ => ?_) (fun _ => ?_)) | (with_reducible refine cs_ (fun _ => ?_) (fun _ => ?_)) | (with_reducible refine objQ_i (fun _ _ => ?_); (repeat (with_reducible refine imp_i (fun _ => ?_)))) | (with_reducible refine appK_a ?_) | (with_reducible refine freshQ_i (fun _ _ => ?_)) | (with_reducible refine nilQ_i (fun _ _ => ?_))))
                exact ⟨_, St.le.refl _, rfl, M1 ++ (l2 ++ w2), by simp, HZ.out.1 _ _ T.out.1 (HZ.out.2.2.2.2.2.2.1 (fun h => kD h.1)) T.out.2.1 (Stb.refl _)⟩
              · have kD : ¬ mid < en := fun h => kA (HZ.out.2.2.2.2.2.2.2.1.2 h)
                have kC : s1 < mid := HZ.out.2.2.2.2.2.2.2.2.1 kB
                rw [HZ.out.2.2.1 (fun h => kA h.1)]
                (repeat' (first | (simp (config := { maxDischargeDepth := 16 }) only [*, ↓vD, vU, VE.ev, VE.evs, retvs, tupOf, grab, vfill, vbsl, eqCells, eqCell, veqs, veqs1, vmnx, AV.isCell, AV.isUndef, Nat.reduceEqDiff, Nat.reduceAdd, Nat.reduceSub, Nat.reduceLeDiff, Nat.reduceLT, reduceIte, reduceCtorEq, Nat.reduceBEq, k_app, k_slc1]) | (with_reducible refine gs (fun _ => ?_) (fun _ => ?_)) | (with_reducible refine cs_ (fun _ => ?_) (fun _ => ?_)) | (with_reducible refine objQ_i (fun _ _ => ?_); (repeat (with_reducible refine imp_i (fun _ => ?_)))) | (with_reducible refine appK_a ?_) | (with_reducible refine freshQ_i (fun _ _ => ?_)) | (with_reducible refine nilQ_i (fun _ _ => ?_))))
                refine callH_then (HZ.out.2.2.2.1 k3 kC) ?_
                rintro _ _ ⟨rfl, M1, rfl, t1, t2⟩
                have hM1 : l1.length + w1.length = M1.length := by simpa using t2.1
                have T := Hid.mk (And.intro t1 (And.intro t2 hM1))
                clear t1 t2 hM1
                (repeat' (first | (simp (config := { maxDischargeDepth := 16 }) only [*, ↓vD, vU, VE.ev, VE.evs, retvs, tupOf, grab, vfill, vbsl, eqCells, eqCell, veqs, veqs1, vmnx, AV.isCell, AV.isUndef, Nat.reduceEqDiff, Nat.reduceAdd, Nat.reduceSub, Nat.reduceLeDiff, Nat.reduceLT, reduceIte, reduceCtorEq, Nat.reduceBEq, k_app, k_slc1]) | (with_reducible refine gs (fun _ => ?_) (fun _ => ?_)) | (with_reducible refine cs_ (fun _ => ?_) (fun _ => ?_)) | (with_reducible refine objQ_i (fun _ _ => ?_); (repeat (with_reducible refine imp_i (fun _ => ?_)))) | (with_reducible refine appK_a ?_) | (with_reducible refine freshQ_i (fun _ _ => ?_)) | (with_reducible refine nilQ_i (fun _ _ => ?_))))
                exact ⟨_, St.le.refl _, rfl, M1 ++ (l2 ++ w2), by simp, HZ.out.1 _ _ T.out.1 (HZ.out.2.2.2.2.2.2.1 (fun h => kD h.1)) T.out.2.1 (Stb.refl _)⟩
            · by_cases k6 : en < b
              · have kD : ¬ mid < en := fun h => kA (HZ.out.2.2.2.2.2.2.2.1.2 h)
                have kC : s1 < mid := HZ.out.2.2.2.2.2.2.2.2.1 kB
                rw [HZ.out.2.2.1 (fun h => kA h.1)]
                (repeat' (first | (simp (config := { maxDischargeDepth := 16 }) only [*, ↓vD, vU, VE.ev, VE.evs, retvs, tupOf, grab, vfill, vbsl, eqCells, eqCell, veqs, veqs1, vmnx, AV.isCell, AV.isUndef, Nat.reduceEqDiff, Nat.reduceAdd, Nat.reduceSub, Nat.reduceLeDiff, Nat.reduceLT, reduceIte, reduceCtorEq, Nat.reduceBEq, k_app, k_slc1]) | (with_reducible refine gs (fun _ => ?_) (fun _ => ?_)) | (with_reducible refine cs_ (fun _ => ?_) (fun _ => ?_)) | (with_reducible refine objQ_i (fun _ _ => ?_); (repeat (with_reducible refine imp_i (fun _ => ?_)))) | (with_reducible refine appK_a ?_) | (with_reducible refine freshQ_i (fun _ _ => ?_)) | (with_reducible refine nilQ_i (fun _ _ => ?_))))
                exact ⟨_, St.le.refl _, rfl, (l1 ++ w1) ++ (l2 ++ w2), by simp, HZ.out.1 _ _ (HZ.out.2.2.2.2.1 (fun h => k3 h.1)) (HZ.out.2.2.2.2.2.2.1 (fun h => kD h.1)) (Stb.refl _) (Stb.refl _)⟩
              · have kD : ¬ mid < en := fun h => kA (HZ.out.2.2.2.2.2.2.2.1.2 h)
                have kC : s1 < mid := HZ.out.2.2.2.2.2.2.2.2.1 kB
                rw [HZ.out.2.2.1 (fun h => kA h.1)]
                (repeat' (first | (simp (config := { maxDischargeDepth := 16 }) only [*, ↓vD, vU, VE.ev, VE.evs, retvs, tupOf, grab, vfill, vbsl, eqCells, eqCell, veqs, veqs1, vmnx, AV.isCell, AV.isUndef, Nat.reduceEqDiff, Nat.reduceAdd, Nat.reduceSub, Nat.reduceLeDiff, Nat.reduceLT, reduceIte, reduceCtorEq, Nat.reduceBEq, k_app, k_slc1]) | (with_reducible refine gs (fun _ => ?_) (fun _ => ?_)) | (with_reducible refine cs_ (fun _ => ?_) (fun _ => ?_)) | (with_reducible refine objQ_i (fun _ _ => ?_); (repeat (with_reducible refine imp_i (fun _ => ?_)))) | (with_reducible refine appK_a ?_) | (with_reducible refine freshQ_i (fun _ _ => ?_)) | (with_reducible refine nilQ_i (fun _ _ => ?_))))
                exact ⟨_, St.le.refl _, rfl, (l1 ++ w1) ++ (l2 ++ w2), by simp, HZ.out.1 _ _ (HZ.out.2.2.2.2.1 (fun h => k3 h.1)) (HZ.out.2.2.2.2.2.2.1 (fun h => kD h.1)) (Stb.refl _) (Stb.refl _)⟩
          · by_cases k3 : a < s1
            · by_cases k6 : en < b
              · have kD : ¬ mid < en := fun h => kA (HZ.out.2.2.2.2.2.2.2.1.2 h)
                have kC : ¬ s1 < mid := fun h => kB (HZ.out.2.2.2.2.2.2.2.2.2 h)
                rw [HZ.out.2.2.1 (fun h => kA h.1)]
                (repeat' (first | (simp (config := { maxDischargeDepth := 16 }) only [*, ↓vD, vU, VE.ev, VE.evs, retvs, tupOf, grab, vfill, vbsl, eqCells, eqCell, veqs, veqs1, vmnx, AV.isCell, AV.isUndef, Nat.reduceEqDiff, Nat.reduceAdd, Nat.reduceSub, Nat.reduceLeDiff, Nat.reduceLT, reduceIte, reduceCtorEq, Nat.reduceBEq, k_app, k_slc1]) | (with_reducible refine gs (fun _ => ?_) (fun _ => ?_)) | (with_reducible refine cs_ (fun _ => ?_) (fun _ => ?_)) | (with_reducible refine objQ_i (fun _ _ => ?_); (repeat (with_reducible refine imp_i (fun _ => ?_)))) | (with_reducible refine appK_a ?_) | (with_reducible refine freshQ_i (fun _ _ => ?_)) | (with_reducible refine nilQ_i (fun _ _ => ?_))))
                exact ⟨_, St.le.refl _, rfl, (l1 ++ w1) ++ (l2 ++ w2), by simp, HZ.out.1 _ _ (HZ.out.2.2.2.2.1 (fun h => kC h.2)) (HZ.out.2.2.2.2.2.2.1 (fun h => kD h.1)) (Stb.refl _) (Stb.refl _)⟩
              · have kD : ¬ mid < en := fun h => kA (HZ.out.2.2.2.2.2.2.2.1.2 h)
                have kC : ¬ s1 < mid := fun h => kB (HZ.out.2.2.2.2.2.2.2.2.2 h)
                rw [HZ.out.2.2.1 (fun h => kA h.1)]
                (repeat' (first | (simp (config := { maxDischargeDepth := 16 }) only [*, ↓vD, vU, VE.ev, VE.evs, retvs, tupOf, grab, vfill, vbsl, eqCells, eqCell, veqs, veqs1, vmnx, AV.isCell, AV.isUndef, Nat.reduceEqDiff, Nat.reduceAdd, Nat.reduceSub, Nat.reduceLeDiff, Nat.reduceLT, reduceIte, reduceCtorEq, Nat.reduceBEq, k_app, k_slc1]) | (with_reducible refine gs (fun _ => ?_) (fun _ => ?_)) | (with_reducible refine cs_ (fun _ => ?_) (fun _ => ?_)) | (with_reducible refine objQ_i (fun _ _ => ?_); (repeat (with_reducible refine imp_i (fun _ => ?_)))) | (with_reducible refine appK_a ?_) | (with_reducible refine freshQ_i (fun _ _ => ?_)) | (with_reducible refine nilQ_i (fun _ _ => ?_))))
                exact ⟨_, St.le.refl _, rfl, (l1 ++ w1) ++ (l2 ++ w2), by simp, HZ.out.1 _ _ (HZ.out.2.2.2.2.1 (fun h => kC h.2)) (HZ.out.2.2.2.2.2.2.1 (fun h => kD h.1)) (Stb.refl _) (Stb.refl _)⟩
            · by_cases k6 : en < b
              · have kD : ¬ mid < en := fun h => kA (HZ.out.2.2.2.2.2.2.2.1.2 h)
                have kC : ¬ s1 < mid := fun h => kB (HZ.out.2.2.2.2.2.2.2.2.2 h)
                rw [HZ.out.2.2.1 (fun h => kA h.1)]
                (repeat' (first | (simp (config := { maxDischargeDepth := 16 }) only [*, ↓vD, vU, VE.ev, VE.evs, retvs, tupOf, grab, vfill, vbsl, eqCells, eqCell, veqs, veqs1, vmnx, AV.isCell, AV.isUndef, Nat.reduceEqDiff, Nat.reduceAdd, Nat.reduceSub, Nat.reduceLeDiff, Nat.reduceLT, reduceIte, reduceCtorEq, Nat.reduceBEq, k_app, k_slc1]) | (with_reducible refine gs (fun _ => ?_) (fun _ => ?_)) | (with_reducible refine cs_ (fun _ => ?_) (fun _ => ?_)) | (with_reducible refine objQ_i (fun _ _ => ?_); (repeat (with_reducible refine imp_i (fun _ => ?_)))) | (with_reducible refine appK_a ?_) | (with_reducible refine freshQ_i (fun _ _ => ?_)) | (with_reducible refine nilQ_i (fun _ _ => ?_))))
                exact ⟨_, St.le.refl _, rfl, (l1 ++ w1) ++ (l2 ++ w2), by simp, HZ.out.1 _ _ (HZ.out.2.2.2.2.1 (fun h => kC h.2)) (HZ.out.2.2.2.2.2.2.1 (fun h => kD h.1)) (Stb.refl _) (Stb.refl _)⟩
              · have kD : ¬ mid < en := fun h => kA (HZ.out.2.2.2.2.2.2.2.1.2 h)
                have kC : ¬ s1 < mid := fun h => kB (HZ.out.2.2.2.2.2.2.2.2.2 h)
                rw [HZ.out.2.2.1 (fun h => kA h.1)]
                (repeat' (first | (simp (config := { maxDischargeDepth := 16 }) only [*, ↓vD, vU, VE.ev, VE.evs, retvs, tupOf, grab, vfill, vbsl, eqCells, eqCell, veqs, veqs1, vmnx, AV.isCell, AV.isUndef, Nat.reduceEqDiff, Nat.reduceAdd, Nat.reduceSub, Nat.reduceLeDiff, Nat.reduceLT, reduceIte, reduceCtorEq, Nat.reduceBEq, k_app, k_slc1]) | (with_reducible refine gs (fun _ => ?_) (fun _ => ?_)) | (with_reducible refine cs_ (fun _ => ?_) (fun _ => ?_)) | (with_reducible refine objQ_i (fun _ _ => ?_); (repeat (with_reducible refine imp_i (fun _ => ?_)))) | (with_reducible refine appK_a ?_) | (with_reducible refine freshQ_i (fun _ _ => ?_)) | (with_reducible refine nilQ_i (fun _ _ => ?_))))
                exact ⟨_, St.le.refl _, rfl, (l1 ++ w1) ++ (l2 ++ w2), by simp, HZ.out.1 _ _ (HZ.out.2.2.2.2.1 (fun h => kC h.2)) (HZ.out.2.2.2.2.2.2.1 (fun h => kD h.1)) (Stb.refl _) (Stb.refl _)⟩
  · have HE := Hid.mk (And.intro hE1 hE2)
    clear hE1 hE2
    (repeat' (first | (simp (config := { maxDischargeDepth := 16 }) only [*, ↓vD, vU, VE.ev, VE.evs, retvs, tupOf, grab, vfill, vbsl, eqCells, eqCell, veqs, veqs1, vmnx, AV.isCell, AV.isUndef, Nat.reduceEqDiff, Nat.reduceAdd, Nat.reduceSub, Nat.reduceLeDiff, Nat.reduceLT, reduceIte, reduceCtorEq, Nat.reduceBEq, k_app, k_slc1]) | (with_reducible refine gs (fun _ => ?_) (fun _ => ?_)) | (with_reducible refine cs_ (fun _ => ?_) (fun _ => ?_)) | (with_reducible refine objQ_i (fun _ _ => ?_); (repeat (with_reducible refine imp_i (fun _ => ?_)))) | (with_reducible refine appK_a ?_) | (with_reducible refine freshQ_i (fun _ _ => ?_)) | (with_reducible refine nilQ_i (fun _ _ => ?_))))
    refine loopm_of (by simp only [asgL, dsts, List.cons_append, List.nil_append, List.append_nil]; rfl) (by simp only [noR, Bool.and_true, Bool.and_false]; rfl) (fun fr s => ∃ s1 r1 : Nat, s = ob st bb f rest ys ∧ fr.t 20 = .int .i64 s1 ∧ fr.t 21 = .int .i64 r1 ∧ BX (fun t => !ltB cf (ys.getD (mid + m - 1 - t) default) (ys.getD t default)) lo hi s1 r1)
      (fun fr _ => (match fr.t 21 with | .int _ n => n.toNat | _ => 0) - (match fr.t 20 with | .int _ n => n.toNat | _ => 0)) ?_ ?_
    · exact ⟨lo, hi, rfl, (by simp [↓vD, vU, VE.ev, VE.evs, retvs, tupOf, grab, vfill, vbsl, eqCells, eqCell, veqs, veqs1, vmnx, AV.isCell, AV.isUndef, Nat.reduceEqDiff, Nat.reduceAdd, Nat.reduceSub, Nat.reduceLeDiff, Nat.reduceLT, reduceIte, reduceCtorEq, Nat.reduceBEq, k_app, k_slc1]; rw [HE.out.1]), (by simp [↓vD, vU, VE.ev, VE.evs, retvs, tupOf, grab, vfill, vbsl, eqCells, eqCell, veqs, veqs1, vmnx, AV.isCell, AV.isUndef, Nat.reduceEqDiff, Nat.reduceAdd, Nat.reduceSub, Nat.reduceLeDiff, Nat.reduceLT, reduceIte, reduceCtorEq, Nat.reduceBEq, k_app, k_slc1]; rw [HE.out.2]), BX.start _ h5⟩
    · rintro fr s hf hdd ⟨s1, r1, rfl, h20, h21, hbx⟩
      have b1 := hbx.li
      have b2 := hbx.ij
      have b3 := hbx.jh
      by_cases hlt : s1 < r1
      · obtain ⟨n1, hh, hhh, q1, q2, q3, q4⟩ := halves s1 r1 (by omega)
        have e1 : decide ((s1 : Int) < r1) = true := by simp; omega
        obtain ⟨hys, hlen, mono, eu, ev, hu, hv, hn, hp, hmid, h6, h7, hm0, hb, hd⟩ := HY.out
        obtain ⟨pc, hpc⟩ : ∃ pc, pc + hh = p := ⟨p - hh, by omega⟩
        have q5 : IntKind.i64.wrap ((p : Int) - hh) = (pc : Int) := by rw [wrap_i64 _ (by omega) (by omega)]; omega
        have q6 := wrap_i64 ((hh : Int) + 1) (by omega) (by omega)
        have i1 : hh < ys.length := by omega
        have i2 : hh < L := by omega
        have i3 : pc < ys.length := by omega
        have i4 : pc < L := by omega
        have hidx : mid + m - 1 - hh = pc := by omega
        have hmn : ∀ p q, lo ≤ p → p ≤ q → q < hi → (fun t => !ltB cf (ys.getD (mid + m - 1 - t) default) (ys.getD t default)) q = true → (fun t => !ltB cf (ys.getD (mid + m - 1 - t) default) (ys.getD t default)) p = true := fun p q k1 k2 k3 k4 => mono p q (by omega) (by omega) k2 (by omega) (by omega) k4
        have HU := Hid.mk (And.intro (fun (hp : (!ltB cf (ys.getD pc default) (ys.getD hh default)) = true) => hbx.up hmn hhh hlt (show (!ltB cf (ys.getD (mid + m - 1 - hh) default) (ys.getD hh default)) = true by rw [hidx]; exact hp)) (fun (hp : (!ltB cf (ys.getD pc default) (ys.getD hh default)) = false) => hbx.down hmn hhh hlt (show (!ltB cf (ys.getD (mid + m - 1 - hh) default) (ys.getD hh default)) = false by rw [hidx]; exact hp)))
        have hs1 : s1 ≤ hh := by rw [hhh]; omega
        have hs2 : hh < r1 := by rw [hhh]; omega
        clear hys hlen mono eu ev hu hv hn hp hmid h6 h7 hm0 hb hd hpc hidx hmn hhh
        (repeat' (first | (simp (config := { maxDischargeDepth := 16 }) only [*, ob_iad, ↓vD, vU, VE.ev, VE.evs, retvs, tupOf, grab, vfill, vbsl, eqCells, eqCell, veqs, veqs1, vmnx, AV.isCell, AV.isUndef, Nat.reduceEqDiff, Nat.reduceAdd, Nat.reduceSub, Nat.reduceLeDiff, Nat.reduceLT, reduceIte, reduceCtorEq, Nat.reduceBEq, k_app, k_slc1]) | (with_reducible refine gs (fun _ => ?_) (fun _ => ?_)) | (with_reducible refine cs_ (fun _ => ?_) (fun _ => ?_)) | (with_reducible refine objQ_i (fun _ _ => ?_); (repeat (with_reducible refine imp_i (fun _ => ?_)))) | (with_reducible refine appK_a ?_) | (with_reducible refine freshQ_i (fun _ _ => ?_)) | (with_reducible refine nilQ_i (fun _ _ => ?_)) | (with_reducible first | refine callH_use (hc _ _) ?_ | refine pureQ_use (hc _ _) ?_)))
        · rename_i hcmp
          exact ⟨_, St.le.refl _, ⟨hh + 1, r1, rfl, by simp, rfl, HU.out.1 hcmp⟩, by simp only [tn0, tn1]; exact Nat.sub_lt_sub_left hlt (Nat.lt_succ_of_le hs1)⟩
        · rename_i hcmp
          exact ⟨_, St.le.refl _, ⟨s1, hh, rfl, rfl, rfl, HU.out.2 hcmp⟩, by simp only [tn0, tn1]; omega⟩
      · have hr : r1 = s1 := by omega
        rw [hr] at hbx h21
        clear hr b1 b2 b3 hlt
        have b1 := hbx.li
        have b3 := hbx.jh
        obtain ⟨hys, hlen, mono, eu, ev, hu, hv, hn, hp, hmid, h6, h7, hm0, hb, hd⟩ := HY.out
        obtain ⟨en, hen⟩ : ∃ en, en + s1 = n := ⟨n - s1, by omega⟩
        have q1 : IntKind.i64.wrap ((n : Int) - s1) = (en : Int) := by rw [wrap_i64 _ (by omega) (by omega)]; omega
        obtain ⟨c1, c2⟩ := cut_facts o hm0 hb hmid eu ev hU hV (by omega) h7 h1 (by omega) h3 h4 (show en + s1 = mid + m by omega) hbx
        obtain ⟨l1, hl1⟩ : ∃ l1, U.take (s1 - a) = l1 := ⟨_, rfl⟩
        obtain ⟨l2, hl2⟩ : ∃ l2, U.drop (s1 - a) = l2 := ⟨_, rfl⟩
        obtain ⟨w1, hw1⟩ : ∃ w1, V.take (en - m) = w1 := ⟨_, rfl⟩
        obtain ⟨w2, hw2⟩ : ∃ w2, V.drop (en - m) = w2 := ⟨_, rfl⟩
        rw [hl1, hw2] at c1
        rw [hl2, hw1] at c2
        have hUs : l1 ++ l2 = U := by rw [← hl1, ← hl2, List.take_append_drop]
        have hVs : w1 ++ w2 = V := by rw [← hw1, ← hw2, List.take_append_drop]
        have n1 : a + l1.length = s1 := by rw [← hl1, List.length_take]; omega
        have n2 : s1 + l2.length = m := by rw [← hl2, List.length_drop]; omega
        have n3 : m + w1.length = en := by rw [← hw1, List.length_take]; omega
        have n4 : en + w2.length = b := by rw [← hw2, List.length_drop]; omega
        have sU : Srt (ltB cf) (l1 ++ l2) := by rw [hUs]; exact hU
        have sV : Srt (ltB cf) (w1 ++ w2) := by rw [hVs]; exact hV
        have hys' : ys = A ++ (l1 ++ (l2 ++ (w1 ++ (w2 ++ C)))) := by rw [hys, ← hUs, ← hVs]; simp
        have HF : ∀ M1 M2 : List α, Srt (ltB cf) M1 → Srt (ltB cf) M2 → Stb (ltB cf) (l1 ++ w1) M1 → Stb (ltB cf) (l2 ++ w2) M2 → Srt (ltB cf) (M1 ++ M2) ∧ Stb (ltB cf) (U ++ V) (M1 ++ M2) := fun M1 M2 a1 a2 a3 a4 => by
          rw [← hUs, ← hVs]; exact merge_cut o sU sV c1 c2 a1 a2 a3 a4
        have HR : s1 < m → m < en → VCalls Try.prog Z 156 [.osl bb L c, .int .i64 s1, .int .i64 m, .int .i64 en, .clo gf fs cs] (ob st bb f rest ys) (fun r s => r = .tup [] ∧ s = ob st bb f rest (A ++ (l1 ++ (w1 ++ (l2 ++ (w2 ++ C)))))) := fun k1 k2 => by
          have := rotate (Z := Z) f hok hag st bb L c rest (.clo gf fs cs) (A ++ l1) l2 w1 (w2 ++ C) s1 m en (by simp; omega) (by simp; omega) (by simp; omega) (by omega) (by omega) (by simp; omega) hm
          rw [hys']; simpa only [List.append_assoc] using this
        have HR0 : ¬ (s1 < m ∧ m < en) → ys = A ++ (l1 ++ (w1 ++ (l2 ++ (w2 ++ C)))) := fun k => by
          rw [hys']
          by_cases e : s1 < m
          · have : w1 = [] := List.eq_nil_of_length_eq_zero (by omega)
            rw [this]; simp
          · have : l2 = [] := List.eq_nil_of_length_eq_zero (by omega)
            rw [this]; simp
        have H1 : a < s1 → s1 < mid → VCalls Try.prog Z 152 [.osl bb L c, .int .i64 a, .int .i64 s1, .int .i64 mid, .clo gf fs cs] (ob st bb f rest (A ++ (l1 ++ (w1 ++ (l2 ++ (w2 ++ C)))))) (SymK f cf st bb rest A l1 w1 (l2 ++ (w2 ++ C))) := fun k1 k2 =>
          HIH.out a s1 mid A l1 w1 (l2 ++ (w2 ++ C)) ha n1 (by omega) (by omega) (by omega) sU.left sV.left (by simp; omega) (by omega)
        have H1n : ¬ (a < s1 ∧ s1 < mid) → Srt (ltB cf) (l1 ++ w1) := fun k => by
          by_cases e : a < s1
          · have : w1 = [] := List.eq_nil_of_length_eq_zero (by omega)
            rw [this, List.append_nil]; exact sU.left
          · have : l1 = [] := List.eq_nil_of_length_eq_zero (by omega)
            rw [this, List.nil_append]; exact sV.left
        have H2 : ∀ M1 : List α, l1.length + w1.length = M1.length → mid < en → en < b → VCalls Try.prog Z 152 [.osl bb L c, .int .i64 mid, .int .i64 en, .int .i64 b, .clo gf fs cs] (ob st bb f rest (A ++ (M1 ++ (l2 ++ (w2 ++ C))))) (SymK f cf st bb rest (A ++ M1) l2 w2 C) := fun M1 k0 k1 k2 => by
          have := HIH.out mid en b (A ++ M1) l2 w2 C (by simp; omega) (by omega) (by omega) (by omega) (by omega) sU.right sV.right (by simp; omega) (by omega)
          simpa only [List.append_assoc] using this
        have H2n : ¬ (mid < en ∧ en < b) → Srt (ltB cf) (l2 ++ w2) := fun k => by
          by_cases e : mid < en
          · have : w2 = [] := List.eq_nil_of_length_eq_zero (by omega)
            rw [this, List.append_nil]; exact sU.right
          · have : l2 = [] := List.eq_nil_of_length_eq_zero (by omega)
            rw [this, List.nil_append]; exact sV.right
        have kAD : s1 < m ↔ mid < en := by omega
        have kBC : m < en ↔ s1 < mid := by omega
        have HZ := Hid.mk (And.intro HF (And.intro HR (And.intro HR0 (And.intro H1 (And.intro H1n (And.intro H2 (And.intro H2n (And.intro kAD kBC))))))))
        clear hys hlen mono eu ev hu hv hn hp hmid h6 h7 hm0 hb hd hen c1 c2 hl1 hl2 hw1 hw2 hUs hVs n1 n2 n3 n4 sU sV hys' HF HR HR0 H1 H1n H2 H2n kAD kBC hbx
        by_cases kA : s1 < m
        · by_cases kB : m < en
          · by_cases k3 : a < s1
            · by_cases k6 : en < b
              · have kD : mid < en := HZ.out.2.2.2.2.2.2.2.1.1 kA
                have kC : s1 < mid := HZ.out.2.2.2.2.2.2.2.2.1 kB
                (repeat' (first | (simp (config := { maxDischargeDepth := 16 }) only [*, ↓vD, vU, VE.ev, VE.evs, retvs, tupOf, grab, vfill, vbsl, eqCells, eqCell, veqs, veqs1, vmnx, AV.isCell, AV.isUndef, Nat.reduceEqDiff, Nat.reduceAdd, Nat.reduceSub, Nat.reduceLeDiff, Nat.reduceLT, reduceIte, reduceCtorEq, Nat.reduceBEq, k_app, k_slc1]) | (with_reducible refine gs (fun _ => ?_) (fun _ => ?_)) | (with_reducible refine cs_ (fun _ => ?_) (fun _ => ?_)) | (with_reducible refine objQ_i (fun _ _ => ?_); (repeat (with_reducible refine imp_i (fun _ => ?_)))) | (with_reducible refine appK_a ?_) | (with_reducible refine freshQ_i (fun _ _ => ?_)) | (with_reducible refine nilQ_i (fun _ _ => ?_))))
                refine callH_then (HZ.out.2.1 kA kB) ?_
                rintro _ _ ⟨rfl, rfl⟩
                (repeat' (first | (simp (config := { maxDischargeDepth := 16 }) only [*, ↓vD, vU, VE.ev, VE.evs, retvs, tupOf, grab, vfill, vbsl, eqCells, eqCell, veqs, veqs1, vmnx, AV.isCell, AV.isUndef, Nat.reduceEqDiff, Nat.reduceAdd, Nat.reduceSub, Nat.reduceLeDiff, Nat.reduceLT, reduceIte, reduceCtorEq, Nat.reduceBEq, k_app, k_slc1]) | (with_reducible refine gs (fun _ => ?_) (fun _ => ?_)) | (with_reducible refine cs_ (fun _ => ?_) (fun _ => ?_)) | (with_reducible refine objQ_i (fun _ _ => ?_); (repeat (with_reducible refine imp_i (fun _ => ?_)))) | (with_reducible refine appK_a ?_) | (with_reducible refine freshQ_i (fun _ _ => ?_)) | (with_reducible refine nilQ_i (fun _ _ => ?_))))
                refine callH_then (HZ.out.2.2.2.1 k3 kC) ?_
                rintro _ _ ⟨rfl, M1, rfl, t1, t2⟩
                have hM1 : l1.length + w1.length = M1.length := by simpa using t2.1
                have T := Hid.mk (And.intro t1 (And.intro t2 hM1))
                clear t1 t2 hM1
                (repeat' (first | (simp (config := { maxDischargeDepth := 16 }) only [*, ↓vD, vU, VE.ev, VE.evs, retvs, tupOf, grab, vfill, vbsl, eqCells, eqCell, veqs, veqs1, vmnx, AV.isCell, AV.isUndef, Nat.reduceEqDiff, Nat.reduceAdd, Nat.reduceSub, Nat.reduceLeDiff, Nat.reduceLT, reduceIte, reduceCtorEq, Nat.reduceBEq, k_app, k_slc1]) | (with_reducible refine gs (fun _ => ?_) (fun _ => ?_)) | (with_reducible refine cs_ (fun _ => ?_) (fun _ => ?_)) | (with_reducible refine objQ_i (fun _ _ => ?_); (repeat (with_reducible refine imp_i (fun _ => ?_)))) | (with_reducible refine appK_a ?_) | (with_reducible refine freshQ_i (fun _ _ => ?_)) | (with_reducible refine nilQ_i (fun _ _ => ?_))))
                have hH2 := HZ.out.2.2.2.2.2.1 M1 T.out.2.2 kD k6
                refine callH_then hH2 ?_
                rintro _ _ ⟨rfl, M2, rfl, t3, t4⟩
                have T2 := Hid.mk (And.intro t3 t4)
                clear t3 t4 hH2
                (repeat' (first | (simp (config := { maxDischargeDepth := 16 }) only [*, ↓vD, vU, VE.ev, VE.evs, retvs, tupOf, grab, vfill, vbsl, eqCells, eqCell, veqs, veqs1, vmnx, AV.isCell, AV.isUndef, Nat.reduceEqDiff, Nat.reduceAdd, Nat.reduceSub, Nat.reduceLeDiff, Nat.reduceLT, reduceIte, reduceCtorEq, Nat.reduceBEq, k_app, k_slc1]) | (with_reducible refine gs (fun _ => ?_) (fun _ => ?_)) | (with_reducible refine cs_ (fun _ => ?_) (fun _ => ?_)) | (with_reducible refine objQ_i (fun _ _ => ?_); (repeat (with_reducible refine imp_i (fun _ => ?_)))) | (with_reducible refine appK_a ?_) | (with_reducible refine freshQ_i (fun _ _ => ?_)) | (with_reducible refine nilQ_i (fun _ _ => ?_))))
                exact ⟨_, St.le.refl _, rfl, M1 ++ M2, by simp, HZ.out.1 _ _ T.out.1 T2.out.1 T.out.2.1 T2.out.2⟩
              · have kD : mid < en := HZ.out.2.2.2.2.2.2.2.1.1 kA
                have kC : s1 < mid := HZ.out.2.2.2.2.2.2.2.2.1 kB
                (repeat' (first | (simp (config := { maxDischargeDepth := 16 }) only [*, ↓vD, vU, VE.ev, VE.evs, retvs, tupOf, grab, vfill, vbsl, eqCells, eqCell, veqs, veqs1, vmnx, AV.isCell, AV.isUndef, Nat.reduceEqDiff, Nat.reduceAdd, Nat.reduceSub, Nat.reduceLeDiff, Nat.reduceLT, reduceIte, reduceCtorEq, Nat.reduceBEq, k_app, k_slc1]) | (with_reducible refine gs (fun _ => ?_) (fun _ => ?_)) | (with_reducible refine cs_ (fun _ => ?_) (fun _ => ?_)) | (with_reducible refine objQ_i (fun _ _ => ?_); (repeat (with_reducible refine imp_i (fun _ => ?_)))) | (with_reducible refine appK_a ?_) | (with_reducible refine freshQ_i (fun _ _ => ?_)) | (with_reducible refine nilQ_i (fun _ _ => ?_))))
                refine callH_then (HZ.out.2.1 kA kB) ?_
                rintro _ _ ⟨rfl, rfl⟩
                (repeat' (first | (simp (config := { maxDischargeDepth := 16 }) only [*, ↓vD, vU, VE.ev, VE.evs, retvs, tupOf, grab, vfill, vbsl, eqCells, eqCell, veqs, veqs1, vmnx, AV.isCell, AV.isUndef, Nat.reduceEqDiff, Nat.reduceAdd, Nat.reduceSub, Nat.reduceLeDiff, Nat.reduceLT, reduceIte, reduceCtorEq, Nat.reduceBEq, k_app, k_slc1]) | (with_reducible refine gs (fun _ => ?_) (fun _ => ?_)) | (with_reducible refine cs_ (fun _ => ?_) (fun _ => ?_)) | (with_reducible refine objQ_i (fun _ _ => ?_); (repeat (with_reducible refine imp_i (fun _ => ?_)))) | (with_reducible refine appK_a ?_) | (with_reducible refine freshQ_i (fun _ _ => ?_)) | (with_reducible refine nilQ_i (fun _ _ => ?_))))
                refine callH_then (HZ.out.2.2.2.1 k3 kC) ?_
                rintro _ _ ⟨rfl, M1, rfl, t1, t2⟩
                have hM1 : l1.length + w1.length = M1.length := by simpa using t2.1
                have T := Hid.mk (And.intro t1 (And.intro t2 hM1))
                clear t1 t2 hM1
                (repeat' (first | (simp (config := { maxDischargeDepth := 16 }) only [*, ↓vD, vU, VE.ev, VE.evs, retvs, tupOf, grab, vfill, vbsl, eqCells, eqCell, veqs, veqs1, vmnx, AV.isCell, AV.isUndef, Nat.reduceEqDiff, Nat.reduceAdd, Nat.reduceSub, Nat.reduceLeDiff, Nat.reduceLT, reduceIte, reduceCtorEq, Nat.reduceBEq, k_app, k_slc1]) | (with_reducible refine gs (fun _ => ?_) (fun _ => ?_)) | (with_reducible refine cs_ (fun _ => ?_) (fun _ => ?_)) | (with_reducible refine objQ_i (fun _ _ => ?_); (repeat (with_reducible refine imp_i (fun _ => ?_)))) | (with_reducible refine appK_a ?_) | (with_reducible refine freshQ_i (fun _ _ => ?_)) | (with_reducible refine nilQ_i (fun _ _ => ?_))))
                exact ⟨_, St.le.refl _, rfl, M1 ++ (l2 ++ w2), by simp, HZ.out.1 _ _ T.out.1 (HZ.out.2.2.2.2.2.2.1 (fun h => k6 h.2)) T.out.2.1 (Stb.refl _)⟩
            · by_cases k6 : en < b
              · have kD : mid < en := HZ.out.2.2.2.2.2.2.2.1.1 kA
                have kC : s1 < mid := HZ.out.2.2.2.2.2.2.2.2.1 kB
                (repeat' (first | (simp (config := { maxDischargeDepth := 16 }) only [*, ↓vD, vU, VE.ev, VE.evs, retvs, tupOf, grab, vfill, vbsl, eqCells, eqCell, veqs, veqs1, vmnx, AV.isCell, AV.isUndef, Nat.reduceEqDiff, Nat.reduceAdd, Nat.reduceSub, Nat.reduceLeDiff, Nat.reduceLT, reduceIte, reduceCtorEq, Nat.reduceBEq, k_app, k_slc1]) | (with_reducible refine gs (fun _ => ?_) (fun _ => ?_)) | (with_reducible refine cs_ (fun _ => ?_) (fun _ => ?_)) | (with_reducible refine objQ_i (fun _ _ => ?_); (repeat (with_reducible refine imp_i (fun _ => ?_)))) | (with_reducible refine appK_a ?_) | (with_reducible refine freshQ_i (fun _ _ => ?_)) | (with_reducible refine nilQ_i (fun _ _ => ?_))))
                refine callH_then (HZ.out.2.1 kA kB) ?_
                rintro _ _ ⟨rfl, rfl⟩
                (repeat' (first | (simp (config := { maxDischargeDepth := 16 }) only [*, ↓vD, vU, VE.ev, VE.evs, retvs, tupOf, grab, vfill, vbsl, eqCells, eqCell, veqs, veqs1, vmnx, AV.isCell, AV.isUndef, Nat.reduceEqDiff, Nat.reduceAdd, Nat.reduceSub, Nat.reduceLeDiff, Nat.reduceLT, reduceIte, reduceCtorEq, Nat.reduceBEq, k_app, k_slc1]) | (with_reducible refine gs (fun _ => ?_) (fun _ => ?_)) | (with_reducible refine cs_ (fun _ => ?_) (fun _ => ?_)) | (with_reducible refine objQ_i (fun _ _ => ?_); (repeat (with_reducible refine imp_i (fun _ => ?_)))) | (with_reducible refine appK_a ?_) | (with_reducible refine freshQ_i (fun _ _ => ?_)) | (with_reducible refine nilQ_i (fun _ _ => ?_))))
                have hH2 := HZ.out.2.2.2.2.2.1 (l1 ++ w1) (by simp) kD k6
                rw [List.append_assoc] at hH2
                refine callH_then hH2 ?_
                rintro _ _ ⟨rfl, M2, rfl, t3, t4⟩
                have T2 := Hid.mk (And.intro t3 t4)
                clear t3 t4 hH2
                (repeat' (first | (simp (config := { maxDischargeDepth := 16 }) only [*, ↓vD, vU, VE.ev, VE.evs, retvs, tupOf, grab, vfill, vbsl, eqCells, eqCell, veqs, veqs1, vmnx, AV.isCell, AV.isUndef, Nat.reduceEqDiff, Nat.reduceAdd, Nat.reduceSub, Nat.reduceLeDiff, Nat.reduceLT, reduceIte, reduceCtorEq, Nat.reduceBEq, k_app, k_slc1]) | (with_reducible refine gs (fun _ => ?_) (fun _ => ?_)) | (with_reducible refine cs_ (fun _ => ?_) (fun _ => ?_)) | (with_reducible refine objQ_i (fun _ _ => ?_); (repeat (with_reducible refine imp_i (fun _ => ?_)))) | (with_reducible refine appK_a ?_) | (with_reducible refine freshQ_i (fun _ _ => ?_)) | (with_reducible refine nilQ_i (fun _ _ => ?_))))
                exact ⟨_, St.le.refl _, rfl, (l1 ++ w1) ++ M2, by simp, HZ.out.1 _ _ (HZ.out.2.2.2.2.1 (fun h => k3 h.1)) T2.out.1 (Stb.refl _) T2.out.2⟩
              · have kD : mid < en := HZ.out.2.2.2.2.2.2.2.1.1 kA
                have kC : s1 < mid := HZ.out.2.2.2.2.2.2.2.2.1 kB
                (repeat' (first | (simp (config := { maxDischargeDepth := 16 }) only [*, ↓vD, vU, VE.ev, VE.evs, retvs, tupOf, grab, vfill, vbsl, eqCells, eqCell, veqs, veqs1, vmnx, AV.isCell, AV.isUndef, Nat.reduceEqDiff, Nat.reduceAdd, Nat.reduceSub, Nat.reduceLeDiff, Nat.reduceLT, reduceIte, reduceCtorEq, Nat.reduceBEq, k_app, k_slc1]) | (with_reducible refine gs (fun _ => ?_) (fun _ => ?_)) | (with_reducible refine cs_ (fun _ => ?_) (fun _ => ?_)) | (with_reducible refine objQ_i (fun _ _ => ?_); (repeat (with_reducible refine imp_i (fun _ => ?_)))) | (with_reducible refine appK_a ?_) | (with_reducible refine freshQ_i (fun _ _ => ?_)) | (with_reducible refine nilQ_i (fun _ _ => ?_))))
                refine callH_then (HZ.out.2.1 kA kB) ?_
                rintro _ _ ⟨rfl, rfl⟩
                (repeat' (first | (simp (config := { maxDischargeDepth := 16 }) only [*, ↓vD, vU, VE.ev, VE.evs, retvs, tupOf, grab, vfill, vbsl, eqCells, eqCell, veqs, veqs1, vmnx, AV.isCell, AV.isUndef, Nat.reduceEqDiff, Nat.reduceAdd, Nat.reduceSub, Nat.reduceLeDiff, Nat.reduceLT, reduceIte, reduceCtorEq, Nat.reduceBEq, k_app, k_slc1]) | (with_reducible refine gs (fun _ => ?_) (fun _ => ?_)) | (with_reducible refine cs_ (fun _ => ?_) (fun _ => ?_)) | (with_reducible refine objQ_i (fun _ _ => ?_); (repeat (with_reducible refine imp_i (fun _ => ?_)))) | (with_reducible refine appK_a ?_) | (with_reducible refine freshQ_i (fun _ _ => ?_)) | (with_reducible refine nilQ_i (fun _ _ => ?_))))
                exact ⟨_, St.le.refl _, rfl, (l1 ++ w1) ++ (l2 ++ w2), by simp, HZ.out.1 _ _ (HZ.out.2.2.2.2.1 (fun h => k3 h.1)) (HZ.out.2.2.2.2.2.2.1 (fun h => k6 h.2)) (Stb.refl _) (Stb.refl _)⟩
          · by_cases k3 : a < s1
            · by_cases k6 : en < b
              · have kD : mid < en := HZ.out.2.2.2.2.2.2.2.1.1 kA
                have kC : ¬ s1 < mid := fun h => kB (HZ.out.2.2.2.2.2.2.2.2.2 h)
                rw [HZ.out.2.2.1 (fun h => kB h.2)]
                (repeat' (first | (simp (config := { maxDischargeDepth := 16 }) only [*, ↓vD, vU, VE.ev, VE.evs, retvs, tupOf, grab, vfill, vbsl, eqCells, eqCell, veqs, veqs1, vmnx, AV.isCell, AV.isUndef, Nat.reduceEqDiff, Nat.reduceAdd, Nat.reduceSub, Nat.reduceLeDiff, Nat.reduceLT, reduceIte, reduceCtorEq, Nat.reduceBEq, k_app, k_slc1]) | (with_reducible refine gs (fun _ => ?_) (fun _ => ?_)) | (with_reducible refine cs_ (fun _ => ?_) (fun _ => ?_)) | (with_reducible refine objQ_i (fun _ _ => ?_); (repeat (with_reducible refine imp_i (fun _ => ?_)))) | (with_reducible refine appK_a ?_) | (with_reducible refine freshQ_i (fun _ _ => ?_)) | (with_reducible refine nilQ_i (fun _ _ => ?_))))
                have hH2 := HZ.out.2.2.2.2.2.1 (l1 ++ w1) (by simp) kD k6
                rw [List.append_assoc] at hH2
                refine callH_then hH2 ?_
                rintro _ _ ⟨rfl, M2, rfl, t3, t4⟩
                have T2 := Hid.mk (And.intro t3 t4)
                clear t3 t4 hH2
                (repeat' (first | (simp (config := { maxDischargeDepth := 16 }) only [*, ↓vD, vU, VE.ev, VE.evs, retvs, tupOf, grab, vfill, vbsl, eqCells, eqCell, veqs, veqs1, vmnx, AV.isCell, AV.isUndef, Nat.reduceEqDiff, Nat.reduceAdd, Nat.reduceSub, Nat.reduceLeDiff, Nat.reduceLT, reduceIte, reduceCtorEq, Nat.reduceBEq, k_app, k_slc1]) | (with_reducible refine gs (fun _ => ?_) (fun _ => ?_)) | (with_reducible refine cs_ (fun _ => ?_) (fun _ => ?_)) | (with_reducible refine objQ_i (fun _ _ => ?_); (repeat (with_reducible refine imp_i (fun _ => ?_)))) | (with_reducible refine appK_a ?_) | (with_reducible refine freshQ_i (fun _ _ => ?_)) | (with_reducible refine nilQ_i (fun _ _ => ?_))))
                exact ⟨_, St.le.refl _, rfl, (l1 ++ w1) ++ M2, by simp, HZ.out.1 _ _ (HZ.out.2.2.2.2.1 (fun h => kC h.2)) T2.out.1 (Stb.refl _) T2.out.2⟩
              · have kD : mid < en := HZ.out.2.2.2.2.2.2.2.1.1 kA
                have kC : ¬ s1 < mid := fun h => kB (HZ.out.2.2.2.2.2.2.2.2.2 h)
                rw [HZ.out.2.2.1 (fun h => kB h.2)]
                (repeat' (first | (simp (config := { maxDischargeDepth := 16 }) only [*, ↓vD, vU, VE.ev, VE.evs, retvs, tupOf, grab, vfill, vbsl, eqCells, eqCell, veqs, veqs1, vmnx, AV.isCell, AV.isUndef, Nat.reduceEqDiff, Nat.reduceAdd, Nat.reduceSub, Nat.reduceLeDiff, Nat.reduceLT, reduceIte, reduceCtorEq, Nat.reduceBEq, k_app, k_slc1]) | (with_reducible refine gs (fun _ => ?_) (fun _ => ?_)) | (with_reducible refine cs_ (fun _ => ?_) (fun _ => ?_)) | (with_reducible refine objQ_i (fun _ _ => ?_); (repeat (with_reducible refine imp_i (fun _ => ?_)))) | (with_reducible refine appK_a ?_) | (with_reducible refine freshQ_i (fun _ _ => ?_)) | (with_reducible refine nilQ_i (fun _ _ => ?_))))
                exact ⟨_, St.le.refl _, rfl, (l1 ++ w1) ++ (l2 ++ w2), by simp, HZ.out.1 _ _ (HZ.out.2.2.2.2.1 (fun h => kC h.2)) (HZ.out.2.2.2.2.2.2.1 (fun h => k6 h.2)) (Stb.refl _) (Stb.refl _)⟩
            · by_cases k6 : en < b
              · have kD : mid < en := HZ.out.2.2.2.2.2.2.2.1.1 kA
                have kC : ¬ s1 < mid := fun h => kB (HZ.out.2.2.2.2.2.2.2.2.2 h)
                rw [HZ.out.2.2.1 (fun h => kB h.2)]
                (repeat' (first | (simp (config := { maxDischargeDepth := 16 }) only [*, ↓vD, vU, VE.ev, VE.evs, retvs, tupOf, grab, vfill, vbsl, eqCells, eqCell, veqs, veqs1, vmnx, AV.isCell, AV.isUndef, Nat.reduceEqDiff, Nat.reduceAdd, Nat.reduceSub, Nat.reduceLeDiff, Nat.reduceLT, reduceIte, reduceCtorEq, Nat.reduceBEq, k_app, k_slc1]) | (with_reducible refine gs (fun _ => ?_) (fun _ => ?_)) | (with_reducible refine cs_ (fun _ => ?_) (fun _ => ?_)) | (with_reducible refine objQ_i (fun _ _ => ?_); (repeat (with_reducible refine imp_i (fun _ => ?_)))) | (with_reducible refine appK_a ?_) | (with_reducible refine freshQ_i (fun _ _ => ?_)) | (with_reducible refine nilQ_i (fun _ _ => ?_))))
                have hH2 := HZ.out.2.2.2.2.2.1 (l1 ++ w1) (by simp) kD k6
                rw [List.append_assoc] at hH2
                refine callH_then hH2 ?_
                rintro _ _ ⟨rfl, M2, rfl, t3, t4⟩
                have T2 := Hid.mk (And.intro t3 t4)
                clear t3 t4 hH2
                (repeat' (first | (simp (config := { maxDischargeDepth := 16 }) only [*, ↓vD, vU, VE.ev, VE.evs, retvs, tupOf, grab, vfill, vbsl, eqCells, eqCell, veqs, veqs1, vmnx, AV.isCell, AV.isUndef, Nat.reduceEqDiff, Nat.reduceAdd, Nat.reduceSub, Nat.reduceLeDiff, Nat.reduceLT, reduceIte, reduceCtorEq, Nat.reduceBEq, k_app, k_slc1]) | (with_reducible refine gs (fun _ => ?_) (fun _ => ?_)) | (with_reducible refine cs_ (fun _ => ?_) (fun _ => ?_)) | (with_reducible refine objQ_i (fun _ _ => ?_); (repeat (with_reducible refine imp_i (fun _ => ?_)))) | (with_reducible refine appK_a ?_) | (with_reducible refine freshQ_i (fun _ _ => ?_)) | (with_reducible refine nilQ_i (fun _ _ => ?_))))
                exact ⟨_, St.le.refl _, rfl, (l1 ++ w1) ++ M2, by simp, HZ.out.1 _ _ (HZ.out.2.2.2.2.1 (fun h => kC h.2)) T2.out.1 (Stb.refl _) T2.out.2⟩
              · have kD : mid < en := HZ.out.2.2.2.2.2.2.2.1.1 kA
                have kC : ¬ s1 < mid := fun h => kB (HZ.out.2.2.2.2.2.2.2.2.2 h)
                rw [HZ.out.2.2.1 (fun h => kB h.2)]
                (repeat' (first | (simp (config := { maxDischargeDepth := 16 }) only [*, ↓vD, vU, VE.ev, VE.evs, retvs, tupOf, grab, vfill, vbsl, eqCells, eqCell, veqs, veqs1, vmnx, AV.isCell, AV.isUndef, Nat.reduceEqDiff, Nat.reduceAdd, Nat.reduceSub, Nat.reduceLeDiff, Nat.reduceLT, reduceIte, reduceCtorEq, Nat.reduceBEq, k_app, k_slc1]) | (with_reducible refine gs (fun _ => ?_) (fun _ => ?_)) | (with_reducible refine cs_ (fun _ => ?_) (fun _ => ?_)) | (with_reducible refine objQ_i (fun _ _ => ?_); (repeat (with_reducible refine imp_i (fun _ => ?_)))) | (with_reducible refine appK_a ?_) | (with_reducible refine freshQ_i (fun _ _ => ?_)) | (with_reducible refine nilQ_i (fun _ _ => ?_))))
                exact ⟨_, St.le.refl _, rfl, (l1 ++ w1) ++ (l2 ++ w2), by simp, HZ.out.1 _ _ (HZ.out.2.2.2.2.1 (fun h => kC h.2)) (HZ.out.2.2.2.2.2.2.1 (fun h => k6 h.2)) (Stb.refl _) (Stb.refl _)⟩
        · by_cases kB : m < en
          · by_cases k3 : a < s1
            · by_cases k6 : en < b
              · have kD : ¬ mid < en := fun h => kA (HZ.out.2.2.2.2.2.2.2.1.2 h)
                have kC : s1 < mid := HZ.out.2.2.2.2.2.2.2.2.1 kB
                rw [HZ.out.2.2.1 (fun h => kA h.1)]
                (repeat' (first | (simp (config := { maxDischargeDepth := 16 }) only [*, ↓vD, vU, VE.ev, VE.evs, retvs, tupOf, grab, vfill, vbsl, eqCells, eqCell, veqs, veqs1, vmnx, AV.isCell, AV.isUndef, Nat.reduceEqDiff, Nat.reduceAdd, Nat.reduceSub, Nat.reduceLeDiff, Nat.reduceLT, reduceIte, reduceCtorEq, Nat.reduceBEq, k_app, k_slc1]) | (with_reducible refine gs (fun _ => ?_) (fun _ => ?_)) | (with_reducible refine cs_ (fun _ => ?_) (fun _ => ?_)) | (with_reducible refine objQ_i (fun _ _ => ?_); (repeat (with_reducible refine imp_i (fun _ => ?_)))) | (with_reducible refine appK_a ?_) | (with_reducible refine freshQ_i (fun _ _ => ?_)) | (with_reducible refine nilQ_i (fun _ _ => ?_))))
                refine callH_then (HZ.out.2.2.2.1 k3 kC) ?_
                rintro _ _ ⟨rfl, M1, rfl, t1, t2⟩
                have hM1 : l1.length + w1.length = M1.length := by simpa using t2.1
                have T := Hid.mk (And.intro t1 (And.intro t2 hM1))
                clear t1 t2 hM1
                (repeat' (first | (simp (config := { maxDischargeDepth := 16 }) only [*, ↓vD, vU, VE.ev, VE.evs, retvs, tupOf, grab, vfill, vbsl, eqCells, eqCell, veqs, veqs1, vmnx, AV.isCell, AV.isUndef, Nat.reduceEqDiff, Nat.reduceAdd, Nat.reduceSub, Nat.reduceLeDiff, Nat.reduceLT, reduceIte, reduceCtorEq, Nat.reduceBEq, k_app, k_slc1]) | (with_reducible refine gs (fun _ => ?_) (fun _ => ?_)) | (with_reducible refine cs_ (fun _ => ?_) (fun _ => ?_)) | (with_reducible refine objQ_i (fun _ _ => ?_); (repeat (with_reducible refine imp_i (fun _ => ?_)))) | (with_reducible refine appK_a ?_) | (with_reducible refine freshQ_i (fun _ _ => ?_)) | (with_reducible refine nilQ_i (fun _ _ => ?_))))
                exact ⟨_, St.le.refl _, rfl, M1 ++ (l2 ++ w2), by simp, HZ.out.1 _ _ T.out.1 (HZ.out.2.2.2.2.2.2.1 (fun h => kD h.1)) T.out.2.1 (Stb.refl _)⟩
              · have kD : ¬ mid < en := fun h => kA (HZ.out.2.2.2.2.2.2.2.1.2 h)
                have kC : s1 < mid := HZ.out.2.2.2.2.2.2.2.2.1 kB
                rw [HZ.out.2.2.1 (fun h => kA h.1)]
                (repeat' (first | (simp (config := { maxDischargeDepth := 16 }) only [*, ↓vD, vU, VE.ev, VE.evs, retvs, tupOf, grab, vfill, vbsl, eqCells, eqCell, veqs, veqs1, vmnx, AV.isCell, AV.isUndef, Nat.reduceEqDiff, Nat.reduceAdd, Nat.reduceSub, Nat.reduceLeDiff, Nat.reduceLT, reduceIte, reduceCtorEq, Nat.reduceBEq, k_app, k_slc1]) | (with_reducible refine gs (fun _ => ?_) (fun _ => ?_)) | (with_reducible refine cs_ (fun _ => ?_) (fun _ => ?_)) | (with_reducible refine objQ_i (fun _ _ => ?_); (repeat (with_reducible refine imp_i (fun _ => ?_)))) | (with_reducible refine appK_a ?_) | (with_reducible refine freshQ_i (fun _ _ => ?_)) | (with_reducible refine nilQ_i (fun _ _ => ?_))))
                refine callH_then (HZ.out.2.2.2.1 k3 kC) ?_
                rintro _ _ ⟨rfl, M1, rfl, t1, t2⟩
                have hM1 : l1.length + w1.length = M1.length := by simpa using t2.1
                have T := Hid.mk (And.intro t1 (And.intro t2 hM1))
                clear t1 t2 hM1
                (repeat' (first | (simp (config := { maxDischargeDepth := 16 }) only [*, ↓vD, vU, VE.ev, VE.evs, retvs, tupOf, grab, vfill, vbsl, eqCells, eqCell, veqs, veqs1, vmnx, AV.isCell, AV.isUndef, Nat.reduceEqDiff, Nat.reduceAdd, Nat.reduceSub, Nat.reduceLeDiff, Nat.reduceLT, reduceIte, reduceCtorEq, Nat.reduceBEq, k_app, k_slc1]) | (with_reducible refine gs (fun _ => ?_) (fun _ => ?_)) | (with_reducible refine cs_ (fun _ => ?_) (fun _ => ?_)) | (with_reducible refine objQ_i (fun _ _ => ?_); (repeat (with_reducible refine imp_i (fun _ => ?_)))) | (with_reducible refine appK_a ?_) | (with_reducible refine freshQ_i (fun _ _ => ?_)) | (with_reducible refine nilQ_i (fun _ _ => ?_))))
                exact ⟨_, St.le.refl _, rfl, M1 ++ (l2 ++ w2), by simp, HZ.out.1 _ _ T.out.1 (HZ.out.2.2.2.2.2.2.1 (fun h => kD h.1)) T.out.2.1 (Stb.refl _)⟩
            · by_cases k6 : en < b
              · have kD : ¬ mid < en := fun h => kA (HZ.out.2.2.2.2.2.2.2.1.2 h)
                have kC : s1 < mid := HZ.out.2.2.2.2.2.2.2.2.1 kB
                rw [HZ.out.2.2.1 (fun h => kA h.1)]
                (repeat' (first | (simp (config := { maxDischargeDepth := 16 }) only [*, ↓vD, vU, VE.ev, VE.evs, retvs, tupOf, grab, vfill, vbsl, eqCells, eqCell, veqs, veqs1, vmnx, AV.isCell, AV.isUndef, Nat.reduceEqDiff, Nat.reduceAdd, Nat.reduceSub, Nat.reduceLeDiff, Nat.reduceLT, reduceIte, reduceCtorEq, Nat.reduceBEq, k_app, k_slc1]) | (with_reducible refine gs (fun _ => ?_) (fun _ => ?_)) | (with_reducible refine cs_ (fun _ => ?_) (fun _ => ?_)) | (with_reducible refine objQ_i (fun _ _ => ?_); (repeat (with_reducible refine imp_i (fun _ => ?_)))) | (with_reducible refine appK_a ?_) | (with_reducible refine freshQ_i (fun _ _ => ?_)) | (with_reducible refine nilQ_i (fun _ _ => ?_))))
                exact ⟨_, St.le.refl _, rfl, (l1 ++ w1) ++ (l2 ++ w2), by simp, HZ.out.1 _ _ (HZ.out.2.2.2.2.1 (fun h => k3 h.1)) (HZ.out.2.2.2.2.2.2.1 (fun h => kD h.1)) (Stb.refl _) (Stb.refl _)⟩
              · have kD : ¬ mid < en := fun h => kA (HZ.out.2.2.2.2.2.2.2.1.2 h)
                have kC : s1 < mid := HZ.out.2.2.2.2.2.2.2.2.1 kB
                rw [HZ.out.2.2.1 (fun h => kA h.1)]
                (repeat' (first | (simp (config := { maxDischargeDepth := 16 }) only [*, ↓vD, vU, VE.ev, VE.evs, retvs, tupOf, grab, vfill, vbsl, eqCells, eqCell, veqs, veqs1, vmnx, AV.isCell, AV.isUndef, Nat.reduceEqDiff, Nat.reduceAdd, Nat.reduceSub, Nat.reduceLeDiff, Nat.reduceLT, reduceIte, reduceCtorEq, Nat.reduceBEq, k_app, k_slc1]) | (with_reducible refine gs (fun _ => ?_) (fun _ => ?_)) | (with_reducible refine cs_ (fun _ => ?_) (fun _ => ?_)) | (with_reducible refine objQ_i (fun _ _ => ?_); (repeat (with_reducible refine imp_i (fun _ => ?_)))) | (with_reducible refine appK_a ?_) | (with_reducible refine freshQ_i (fun _ _ => ?_)) | (with_reducible refine nilQ_i (fun _ _ => ?_))))
                exact ⟨_, St.le.refl _, rfl, (l1 ++ w1) ++ (l2 ++ w2), by simp, HZ.out.1 _ _ (HZ.out.2.2.2.2.1 (fun h => k3 h.1)) (HZ.out.2.2.2.2.2.2.1 (fun h => kD h.1)) (Stb.refl _) (Stb.refl _)⟩
          · by_cases k3 : a < s1
            · by_cases k6 : en < b
              · have kD : ¬ mid < en := fun h => kA (HZ.out.2.2.2.2.2.2.2.1.2 h)
                have kC : ¬ s1 < mid := fun h => kB (HZ.out.2.2.2.2.2.2.2.2.2 h)
                rw [HZ.out.2.2.1 (fun h => kA h.1)]
                (repeat' (first | (simp (config := { maxDischargeDepth := 16 }) only [*, ↓vD, vU, VE.ev, VE.evs, retvs, tupOf, grab, vfill, vbsl, eqCells, eqCell, veqs, veqs1, vmnx, AV.isCell, AV.isUndef, Nat.reduceEqDiff, Nat.reduceAdd, Nat.reduceSub, Nat.reduceLeDiff, Nat.reduceLT, reduceIte, reduceCtorEq, Nat.reduceBEq, k_app, k_slc1]) | (with_reducible refine gs (fun _ => ?_) (fun _ => ?_)) | (with_reducible refine cs_ (fun _ => ?_) (fun _ => ?_)) | (with_reducible refine objQ_i (fun _ _ => ?_); (repeat (with_reducible refine imp_i (fun _ => ?_)))) | (with_reducible refine appK_a ?_) | (with_reducible refine freshQ_i (fun _ _ => ?_)) | (with_reducible refine nilQ_i (fun _ _ => ?_))))
                exact ⟨_, St.le.refl _, rfl, (l1 ++ w1) ++ (l2 ++ w2), by simp, HZ.out.1 _ _ (HZ.out.2.2.2.2.1 (fun h => kC h.2)) (HZ.out.2.2.2.2.2.2.1 (fun h => kD h.1)) (Stb.refl _) (Stb.refl _)⟩
              · have kD : ¬ mid < en := fun h => kA (HZ.out.2.2.2.2.2.2.2.1.2 h)
                have kC : ¬ s1 < mid := fun h => kB (HZ.out.2.2.2.2.2.2.2.2.2 h)
                rw [HZ.out.2.2.1 (fun h => kA h.1)]
                (repeat' (first | (simp (config := { maxDischargeDepth := 16 }) only [*, ↓vD, vU, VE.ev, VE.evs, retvs, tupOf, grab, vfill, vbsl, eqCells, eqCell, veqs, veqs1, vmnx, AV.isCell, AV.isUndef, Nat.reduceEqDiff, Nat.reduceAdd, Nat.reduceSub, Nat.reduceLeDiff, Nat.reduceLT, reduceIte, reduceCtorEq, Nat.reduceBEq, k_app, k_slc1]) | (with_reducible refine gs (fun _ => ?_) (fun _ => ?_)) | (with_reducible refine cs_ (fun _ => ?_) (fun _ => ?_)) | (with_reducible refine objQ_i (fun _ _ => ?_); (repeat (with_reducible refine imp_i (fun _ => ?_)))) | (with_reducible refine appK_a ?_) | (with_reducible refine freshQ_i (fun _ _ => ?_)) | (with_reducible refine nilQ_i (fun _ _ => ?_))))
                exact ⟨_, St.le.refl _, rfl, (l1 ++ w1) ++ (l2 ++ w2), by simp, HZ.out.1 _ _ (HZ.out.2.2.2.2.1 (fun h => kC h.2)) (HZ.out.2.2.2.2.2.2.1 (fun h => kD h.1)) (Stb.refl _) (Stb.refl _)⟩
            · by_cases k6 : en < b
              · have kD : ¬ mid < en := fun h => kA (HZ.out.2.2.2.2.2.2.2.1.2 h)
                have kC : ¬ s1 < mid := fun h => kB (HZ.out.2.2.2.2.2.2.2.2.2 h)
                rw [HZ.out.2.2.1 (fun h => kA h.1)]
                (repeat' (first | (simp (config := { maxDischargeDepth := 16 }) only [*, ↓vD, vU, VE.ev, VE.evs, retvs, tupOf, grab, vfill, vbsl, eqCells, eqCell, veqs, veqs1, vmnx, AV.isCell, AV.isUndef, Nat.reduceEqDiff, Nat.reduceAdd, Nat.reduceSub, Nat.reduceLeDiff, Nat.reduceLT, reduceIte, reduceCtorEq, Nat.reduceBEq, k_app, k_slc1]) | (with_reducible refine gs (fun _ => ?_) (fun _ => ?_)) | (with_reducible refine cs_ (fun _ => ?_) (fun _ => ?_)) | (with_reducible refine objQ_i (fun _ _ => ?_); (repeat (with_reducible refine imp_i (fun _ => ?_)))) | (with_reducible refine appK_a ?_) | (with_reducible refine freshQ_i (fun _ _ => ?_)) | (with_reducible refine nilQ_i (fun _ _ => ?_))))
                exact ⟨_, St.le.refl _, rfl, (l1 ++ w1) ++ (l2 ++ w2), by simp, HZ.out.1 _ _ (HZ.out.2.2.2.2.1 (fun h => kC h.2)) (HZ.out.2.2.2.2.2.2.1 (fun h => kD h.1)) (Stb.refl _) (Stb.refl _)⟩
              · have kD : ¬ mid < en := fun h => kA (HZ.out.2.2.2.2.2.2.2.1.2 h)
                have kC : ¬ s1 < mid := fun h => kB (HZ.out.2.2.2.2.2.2.2.2.2 h)
                rw [HZ.out.2.2.1 (fun h => kA h.1)]
                (repeat' (first | (simp (config := { maxDischargeDepth := 16 }) only [*, ↓vD, vU, VE.ev, VE.evs, retvs, tupOf, grab, vfill, vbsl, eqCells, eqCell, veqs, veqs1, vmnx, AV.isCell, AV.isUndef, Nat.reduceEqDiff, Nat.reduceAdd, Nat.reduceSub, Nat.reduceLeDiff, Nat.reduceLT, reduceIte, reduceCtorEq, Nat.reduceBEq, k_app, k_slc1]) | (with_reducible refine gs (fun _ => ?_) (fun _ => ?_)) | (with_reducible refine cs_ (fun _ => ?_) (fun _ => ?_)) | (with_reducible refine objQ_i (fun _ _ => ?_); (repeat (with_reducible refine imp_i (fun _ => ?_)))) | (with_reducible refine appK_a ?_) | (with_reducible refine freshQ_i (fun _ _ => ?_)) | (with_reducible refine nilQ_i (fun _ _ => ?_))))
                exact ⟨_, St.le.refl _, rfl, (l1 ++ w1) ++ (l2 ++ w2), by simp, HZ.out.1 _ _ (HZ.out.2.2.2.2.1 (fun h => kC h.2)) (HZ.out.2.2.2.2.2.2.1 (fun h => kD h.1)) (Stb.refl _) (Stb.refl _)⟩
end Go.Proofs.Ytddbnncimggogaa.V.SoSeg
end
section
set_option linter.unusedSimpArgs false
set_option linter.unusedVariables false
/- slices.SortStableFunc at livery/api.Seg: the merge, the whole. -/
namespace Go.Proofs.Ytddbnncimggogaa.V.SoSeg
open Go Go.Proofs Go.Proofs.Ytddbnncimggogaa.SP
set_option maxRecDepth 100000
variable {α : Type} [Inhabited α] {Z : Im}
theorem symMerge (f : α → AV) (hok : ∀ x, okEl 3 (f x) = true) (hag : ∀ x, AV.agg (f x).cells = f x) {gf : Nat} {fs cs : List AV} (cf : α → α → Int) (o : SWO (ltB cf)) (hc : ∀ x y, VPure Try.prog gf (fs ++ [f x, f y] ++ cs) (.int .i64 (cf x y)))
    (st : St) (bb L c : Nat) (rest : List AV) (hm : L ≤ 1000000000) : ∀ (d : Nat) (a m b : Nat) (A U V C : List α), A.length = a → a + U.length = m → m + V.length = b → 0 < U.length → 0 < V.length → Srt (ltB cf) U → Srt (ltB cf) V → (A ++ (U ++ (V ++ C))).length = L → U.length + V.length ≤ d →
      VCalls Try.prog Z 152 [.osl bb L c, .int .i64 a, .int .i64 m, .int .i64 b, .clo gf fs cs] (ob st bb f rest (A ++ (U ++ (V ++ C)))) (SymK f cf st bb rest A U V C)
  | 0, _, _, _, _, _, _, _, _, _, _, hU, _, _, _, _, hd => by omega
  | d + 1, a, m, b, A, U, V, C, ha, hm0, hb, hU, hV, sU, sV, hL, hd => by
    by_cases h1 : U.length = 1
    · obtain ⟨x, rfl⟩ := List.length_eq_one_iff.1 h1
      exact sym_left f hok hag cf o hc st bb L c rest A V C x a m b ha (by simpa using hm0) hb hV sV hL hm
    · by_cases h2 : V.length = 1
      · obtain ⟨y, rfl⟩ := List.length_eq_one_iff.1 h2
        exact sym_right f hok hag cf o hc st bb L c rest A U C y a m b ha hm0 (by simpa using hb) (by omega) sU hL hm
      · exact sym_mid f hok hag cf o hc st bb L c rest d (symMerge f hok hag cf o hc st bb L c rest hm d) A U V C a m b ha hm0 hb (by omega) (by omega) sU sV hL hm (by omega)
set_option maxHeartbeats 4000000 in
theorem stable (f : α → AV) (hok : ∀ x, okEl 3 (f x) = true) (hag : ∀ x, AV.agg (f x).cells = f x) {gf : Nat} {fs cs : List AV} (cf : α → α → Int) (o : SWO (ltB cf)) (hc : ∀ x y, VPure Try.prog gf (fs ++ [f x, f y] ++ cs) (.int .i64 (cf x y)))
    (st : St) (bb L c : Nat) (rest : List AV) (xs : List α) (hL : xs.length = L) (hm : L ≤ 1000000000) :
    VCalls Try.prog Z 139 [.osl bb L c, .int .i64 L, .clo gf fs cs] (ob st bb f rest xs) (fun r s => r = .tup [] ∧ s = ob st bb f rest (sortS (ltB cf) xs)) := by
  refine VCalls.of v_slices_stableCmpFunc_api_Seg_ok (Nat.le_of_ble_eq_true rfl) ?_
  simp only [v_slices_stableCmpFunc_api_Seg, ↓vD, vU, VE.ev, VE.evs, retvs, tupOf, grab, vfill, vbsl, eqCells, eqCell, veqs, veqs1, vmnx, AV.isCell, AV.isUndef, Nat.reduceEqDiff, Nat.reduceAdd, Nat.reduceSub, Nat.reduceLeDiff, Nat.reduceLT, reduceIte, reduceCtorEq, Nat.reduceBEq, k_app, k_slc1]
  refine loopm_of (by simp only [asgL, dsts, List.cons_append, List.nil_append, List.append_nil]; rfl) (by simp only [noR, Bool.and_true, Bool.and_false]; rfl) (fun fr s => ∃ (a b : Nat) (D R : List α), fr.t 7 = .int .i64 a ∧ fr.t 8 = .int .i64 b ∧ s = ob st bb f rest (D ++ R) ∧ a + 20 = b ∧ D.length = a ∧ Full (ltB cf) 20 D ∧ Stb (ltB cf) xs (D ++ R)) (fun fr _ => L - (match fr.t 7 with | .int _ n => n.toNat | _ => 0)) ?_ ?_
  · exact ⟨0, 20, [], xs, by simp [↓vD, vU, VE.ev, VE.evs, retvs, tupOf, grab, vfill, vbsl, eqCells, eqCell, veqs, veqs1, vmnx, AV.isCell, AV.isUndef, Nat.reduceEqDiff, Nat.reduceAdd, Nat.reduceSub, Nat.reduceLeDiff, Nat.reduceLT, reduceIte, reduceCtorEq, Nat.reduceBEq, k_app, k_slc1], by simp [↓vD, vU, VE.ev, VE.evs, retvs, tupOf, grab, vfill, vbsl, eqCells, eqCell, veqs, veqs1, vmnx, AV.isCell, AV.isUndef, Nat.reduceEqDiff, Nat.reduceAdd, Nat.reduceSub, Nat.reduceLeDiff, Nat.reduceLT, reduceIte, reduceCtorEq, Nat.reduceBEq, k_app, k_slc1], rfl, rfl, rfl, Full.nil 20, Stb.refl _⟩
  · rintro fr s hf hd ⟨a, b, D, R, h7, h8, rfl, hab, hD, hF, hS⟩
    have hlen : a + R.length = L := by have := hS.1; simp at this; omega
    by_cases hlt : b ≤ L
    · have hR20 : 20 ≤ R.length := by omega
      have w1 : IntKind.i64.wrap ((b : Int) + 20) = ((b + 20 : Nat) : Int) := by rw [wrap_i64 _ (by omega) (by omega)]; omega
      have hins := insertion (Z := Z) f hok hag cf o hc st bb L c rest D (R.take 20) (R.drop 20) a b hD (by simp; omega) (by rw [List.take_append_drop]; simp; omega) hm
      rw [List.take_append_drop] at hins
      (repeat' (first | (simp (config := { maxDischargeDepth := 16 }) only [*, ↓vD, vU, VE.ev, VE.evs, retvs, tupOf, grab, vfill, vbsl, eqCells, eqCell, veqs, veqs1, vmnx, AV.isCell, AV.isUndef, Nat.reduceEqDiff, Nat.reduceAdd, Nat.reduceSub, Nat.reduceLeDiff, Nat.reduceLT, reduceIte, reduceCtorEq, Nat.reduceBEq, k_app, k_slc1]) | (with_reducible refine gs (fun _ => ?_) (fun _ => ?_)) | (with_reducible refine cs_ (fun _ => ?_) (fun _ => ?_)) | (with_reducible refine objQ_i (fun _ _ => ?_); (repeat (with_reducible refine imp_i (fun _ => ?_)))) | (with_reducible refine appK_a ?_) | (with_reducible refine freshQ_i (fun _ _ => ?_)) | (with_reducible refine nilQ_i (fun _ _ => ?_))))
      refine callH_then hins ?_
      rintro _ _ ⟨rfl, M, rfl, hs, hk⟩
      have hl := hk.1
      (repeat' (first | (simp (config := { maxDischargeDepth := 16 }) only [*, ↓vD, vU, VE.ev, VE.evs, retvs, tupOf, grab, vfill, vbsl, eqCells, eqCell, veqs, veqs1, vmnx, AV.isCell, AV.isUndef, Nat.reduceEqDiff, Nat.reduceAdd, Nat.reduceSub, Nat.reduceLeDiff, Nat.reduceLT, reduceIte, reduceCtorEq, Nat.reduceBEq, k_app, k_slc1]) | (with_reducible refine gs (fun _ => ?_) (fun _ => ?_)) | (with_reducible refine cs_ (fun _ => ?_) (fun _ => ?_)) | (with_reducible refine objQ_i (fun _ _ => ?_); (repeat (with_reducible refine imp_i (fun _ => ?_)))) | (with_reducible refine appK_a ?_) | (with_reducible refine freshQ_i (fun _ _ => ?_)) | (with_reducible refine nilQ_i (fun _ _ => ?_))))
      refine ⟨_, St.le.refl _, ⟨b, b + 20, D ++ M, R.drop 20, rfl, by omega, by rw [List.append_assoc], rfl, by have := hk.1; simp at this ⊢; omega, hF.snoc (by have := hk.1; simp at this; omega) hs, ?_⟩, by simp only [tn0]; omega⟩
      refine hS.trans ?_
      rw [List.append_assoc]
      refine Stb.append (Stb.refl _) ?_
      have h2 := Stb.append hk (Stb.refl (lt := ltB cf) (R.drop 20))
      rwa [List.take_append_drop] at h2
    · have hins := insertion (Z := Z) f hok hag cf o hc st bb L c rest D R [] a L hD (by omega) (by simp; omega) hm
      rw [List.append_nil] at hins
      (repeat' (first | (simp (config := { maxDischargeDepth := 16 }) only [*, ↓vD, vU, VE.ev, VE.evs, retvs, tupOf, grab, vfill, vbsl, eqCells, eqCell, veqs, veqs1, vmnx, AV.isCell, AV.isUndef, Nat.reduceEqDiff, Nat.reduceAdd, Nat.reduceSub, Nat.reduceLeDiff, Nat.reduceLT, reduceIte, reduceCtorEq, Nat.reduceBEq, k_app, k_slc1]) | (with_reducible refine gs (fun _ => ?_) (fun _ => ?_)) | (with_reducible refine cs_ (fun _ => ?_) (fun _ => ?_)) | (with_reducible refine objQ_i (fun _ _ => ?_); (repeat (with_reducible refine imp_i (fun _ => ?_)))) | (with_reducible refine appK_a ?_) | (with_reducible refine freshQ_i (fun _ _ => ?_)) | (with_reducible refine nilQ_i (fun _ _ => ?_))))
      refine callH_then hins ?_
      rintro _ _ ⟨rfl, M, rfl, hs, hk⟩
      have hl := hk.1
      have HB : Hid (∃ ys, D ++ (M ++ []) = ys ∧ Bk (ltB cf) 20 ys ∧ Stb (ltB cf) xs ys) := ⟨⟨D ++ M, by simp, hF _ (Bk.last M hs (by omega)), hS.trans (Stb.append (Stb.refl _) hk)⟩⟩
      clear hs hk hl hins hF hS hD hlen hlt hab
      (repeat' (first | (simp (config := { maxDischargeDepth := 16 }) only [*, ↓vD, vU, VE.ev, VE.evs, retvs, tupOf, grab, vfill, vbsl, eqCells, eqCell, veqs, veqs1, vmnx, AV.isCell, AV.isUndef, Nat.reduceEqDiff, Nat.reduceAdd, Nat.reduceSub, Nat.reduceLeDiff, Nat.reduceLT, reduceIte, reduceCtorEq, Nat.reduceBEq, k_app, k_slc1]) | (with_reducible refine gs (fun _ => ?_) (fun _ => ?_)) | (with_reducible refine cs_ (fun _ => ?_) (fun _ => ?_)) | (with_reducible refine objQ_i (fun _ _ => ?_); (repeat (with_reducible refine imp_i (fun _ => ?_)))) | (with_reducible refine appK_a ?_) | (with_reducible refine freshQ_i (fun _ _ => ?_)) | (with_reducible refine nilQ_i (fun _ _ => ?_))))
      refine loopm_of (by simp only [asgL, dsts, List.cons_append, List.nil_append, List.append_nil]; rfl) (by simp only [noR, Bool.and_true, Bool.and_false]; rfl) (fun fr2 s => ∃ (z : Nat) (ys : List α), fr2.t 6 = .int .i64 z ∧ s = ob st bb f rest ys ∧ 20 ≤ z ∧ z ≤ 2000000000 ∧ Bk (ltB cf) z ys ∧ Stb (ltB cf) xs ys) (fun fr2 _ => L - (match fr2.t 6 with | .int _ n => n.toNat | _ => 0)) ?_ ?_
      · obtain ⟨ys, h1, h2, h3⟩ := HB.out
        exact ⟨20, ys, by simp [↓vD, vU, VE.ev, VE.evs, retvs, tupOf, grab, vfill, vbsl, eqCells, eqCell, veqs, veqs1, vmnx, AV.isCell, AV.isUndef, Nat.reduceEqDiff, Nat.reduceAdd, Nat.reduceSub, Nat.reduceLeDiff, Nat.reduceLT, reduceIte, reduceCtorEq, Nat.reduceBEq, k_app, k_slc1, hf], by rw [← h1]; simp, by omega, by omega, h2, h3⟩
      · rintro fr2 s hf2 hd2 ⟨z, ys, h6, rfl, hz1, hz2, hB, hS⟩
        have hyl : ys.length = L := by have := hS.1; omega
        by_cases hzl : z < L
        · obtain ⟨z2, hz⟩ : ∃ z2, 2 * z = z2 := ⟨_, rfl⟩
          have w1 : IntKind.i64.wrap (2 * (z : Int)) = (z2 : Int) := by rw [wrap_i64 _ (by omega) (by omega)]; omega
          have w2 : IntKind.i64.wrap ((z : Int) * 2) = (z2 : Int) := by rw [wrap_i64 _ (by omega) (by omega)]; omega
          (repeat' (first | (simp (config := { maxDischargeDepth := 16 }) only [*, ↓vD, vU, VE.ev, VE.evs, retvs, tupOf, grab, vfill, vbsl, eqCells, eqCell, veqs, veqs1, vmnx, AV.isCell, AV.isUndef, Nat.reduceEqDiff, Nat.reduceAdd, Nat.reduceSub, Nat.reduceLeDiff, Nat.reduceLT, reduceIte, reduceCtorEq, Nat.reduceBEq, k_app, k_slc1]) | (with_reducible refine gs (fun _ => ?_) (fun _ => ?_)) | (with_reducible refine cs_ (fun _ => ?_) (fun _ => ?_)) | (with_reducible refine objQ_i (fun _ _ => ?_); (repeat (with_reducible refine imp_i (fun _ => ?_)))) | (with_reducible refine appK_a ?_) | (with_reducible refine freshQ_i (fun _ _ => ?_)) | (with_reducible refine nilQ_i (fun _ _ => ?_))))
          refine loopm_of (by simp only [asgL, dsts, List.cons_append, List.nil_append, List.append_nil]; rfl) (by simp only [noR, Bool.and_true, Bool.and_false]; rfl) (fun fr3 s => ∃ (a b : Nat) (E R : List α), fr3.t 7 = .int .i64 a ∧ fr3.t 8 = .int .i64 b ∧ s = ob st bb f rest (E ++ R) ∧ a + z2 = b ∧ E.length = a ∧ Full (ltB cf) z2 E ∧ Bk (ltB cf) z R ∧ Stb (ltB cf) xs (E ++ R)) (fun fr3 _ => L - (match fr3.t 7 with | .int _ n => n.toNat | _ => 0)) ?_ ?_
          · exact ⟨0, z2, [], ys, by simp [↓vD, vU, VE.ev, VE.evs, retvs, tupOf, grab, vfill, vbsl, eqCells, eqCell, veqs, veqs1, vmnx, AV.isCell, AV.isUndef, Nat.reduceEqDiff, Nat.reduceAdd, Nat.reduceSub, Nat.reduceLeDiff, Nat.reduceLT, reduceIte, reduceCtorEq, Nat.reduceBEq, k_app, k_slc1], by simp [↓vD, vU, VE.ev, VE.evs, retvs, tupOf, grab, vfill, vbsl, eqCells, eqCell, veqs, veqs1, vmnx, AV.isCell, AV.isUndef, Nat.reduceEqDiff, Nat.reduceAdd, Nat.reduceSub, Nat.reduceLeDiff, Nat.reduceLT, reduceIte, reduceCtorEq, Nat.reduceBEq, k_app, k_slc1], rfl, by omega, rfl, Full.nil _, hB, hS⟩
          · rintro fr3 s hf3 hd3 ⟨a, b, E, R, h7, h8, rfl, hab, hE, hF, hBR, hSE⟩
            have hlen : a + R.length = L := by have := hSE.1; simp at this; omega
            obtain ⟨mm, hmm⟩ : ∃ mm, a + z = mm := ⟨_, rfl⟩
            have w3 : IntKind.i64.wrap ((a : Int) + z) = (mm : Int) := by rw [wrap_i64 _ (by omega) (by omega)]; omega
            by_cases hlt : b ≤ L
            · obtain ⟨b2, hb2⟩ : ∃ b2, b + z2 = b2 := ⟨_, rfl⟩
              have w4 : IntKind.i64.wrap ((b : Int) + z2) = (b2 : Int) := by rw [wrap_i64 _ (by omega) (by omega)]; omega
              obtain ⟨U, V, R2, hRR, hU, hV, sU, sV, hB2⟩ := hBR.two (by omega)
              subst hRR
              have hsm := symMerge (Z := Z) f hok hag cf o hc st bb L c rest hm _ a mm b E U V R2 hE (by omega) (by omega) (by omega) (by omega) sU sV (by simp at hlen ⊢; omega) (Nat.le_refl _)
              have H := Hid.mk (And.intro hU (And.intro hV (And.intro hlen (And.intro hmm hb2))))
              clear hU hV hlen hmm hb2
              (repeat' (first | (simp (config := { maxDischargeDepth := 16 }) only [*, ↓vD, vU, VE.ev, VE.evs, retvs, tupOf, grab, vfill, vbsl, eqCells, eqCell, veqs, veqs1, vmnx, AV.isCell, AV.isUndef, Nat.reduceEqDiff, Nat.reduceAdd, Nat.reduceSub, Nat.reduceLeDiff, Nat.reduceLT, reduceIte, reduceCtorEq, Nat.reduceBEq, k_app, k_slc1]) | (with_reducible refine gs (fun _ => ?_) (fun _ => ?_)) | (with_reducible refine cs_ (fun _ => ?_) (fun _ => ?_)) | (with_reducible refine objQ_i (fun _ _ => ?_); (repeat (with_reducible refine imp_i (fun _ => ?_)))) | (with_reducible refine appK_a ?_) | (with_reducible refine freshQ_i (fun _ _ => ?_)) | (with_reducible refine nilQ_i (fun _ _ => ?_))))
              refine callH_then hsm ?_
              rintro _ _ ⟨rfl, M, rfl, hs, hk⟩
              (repeat' (first | (simp (config := { maxDischargeDepth := 16 }) only [*, ↓vD, vU, VE.ev, VE.evs, retvs, tupOf, grab, vfill, vbsl, eqCells, eqCell, veqs, veqs1, vmnx, AV.isCell, AV.isUndef, Nat.reduceEqDiff, Nat.reduceAdd, Nat.reduceSub, Nat.reduceLeDiff, Nat.reduceLT, reduceIte, reduceCtorEq, Nat.reduceBEq, k_app, k_slc1]) | (with_reducible refine gs (fun _ => ?_) (fun _ => ?_)) | (with_reducible refine cs_ (fun _ => ?_) (fun _ => ?_)) | (with_reducible refine objQ_i (fun _ _ => ?_); (repeat (with_reducible refine imp_i (fun _ => ?_)))) | (with_reducible refine appK_a ?_) | (with_reducible refine freshQ_i (fun _ _ => ?_)) | (with_reducible refine nilQ_i (fun _ _ => ?_))))
              obtain ⟨hU, hV, hlen, hmm, hb2⟩ := H.out
              have hkl := hk.1
              simp only [List.length_append] at hkl
              refine ⟨_, St.le.refl _, ⟨b, b2, E ++ M, R2, rfl, rfl, by rw [List.append_assoc], by omega, by simp only [List.length_append]; omega, hF.snoc (by omega) hs, hB2, ?_⟩, by simp only [tn0]; omega⟩
              refine hSE.trans ?_
              rw [List.append_assoc, ← List.append_assoc U]
              exact Stb.append (Stb.refl _) (Stb.append hk (Stb.refl _))
            · by_cases hml : mm < L
              · obtain ⟨U, V, hRR, hU, hV0, hV1, sU, sV⟩ := hBR.tail (by omega) (by omega)
                subst hRR
                have hsm := symMerge (Z := Z) f hok hag cf o hc st bb L c rest hm _ a mm L E U V [] hE (by omega) (by simp at hlen; omega) (by omega) (by omega) sU sV (by simp at hlen ⊢; omega) (Nat.le_refl _)
                rw [List.append_nil] at hsm
                have H := Hid.mk (And.intro hU (And.intro hlen hmm))
                clear hU hlen hmm
                (repeat' (first | (simp (config := { maxDischargeDepth := 16 }) only [*, ↓vD, vU, VE.ev, VE.evs, retvs, tupOf, grab, vfill, vbsl, eqCells, eqCell, veqs, veqs1, vmnx, AV.isCell, AV.isUndef, Nat.reduceEqDiff, Nat.reduceAdd, Nat.reduceSub, Nat.reduceLeDiff, Nat.reduceLT, reduceIte, reduceCtorEq, Nat.reduceBEq, k_app, k_slc1]) | (with_reducible refine gs (fun _ => ?_) (fun _ => ?_)) | (with_reducible refine cs_ (fun _ => ?_) (fun _ => ?_)) | (with_reducible refine objQ_i (fun _ _ => ?_); (repeat (with_reducible refine imp_i (fun _ => ?_)))) | (with_reducible refine appK_a ?_) | (with_reducible refine freshQ_i (fun _ _ => ?_)) | (with_reducible refine nilQ_i (fun _ _ => ?_))))
                refine callH_then hsm ?_
                rintro _ _ ⟨rfl, M, rfl, hs, hk⟩
                (repeat' (first | (simp (config := { maxDischargeDepth := 16 }) only [*, ↓vD, vU, VE.ev, VE.evs, retvs, tupOf, grab, vfill, vbsl, eqCells, eqCell, veqs, veqs1, vmnx, AV.isCell, AV.isUndef, Nat.reduceEqDiff, Nat.reduceAdd, Nat.reduceSub, Nat.reduceLeDiff, Nat.reduceLT, reduceIte, reduceCtorEq, Nat.reduceBEq, k_app, k_slc1]) | (with_reducible refine gs (fun _ => ?_) (fun _ => ?_)) | (with_reducible refine cs_ (fun _ => ?_) (fun _ => ?_)) | (with_reducible refine objQ_i (fun _ _ => ?_); (repeat (with_reducible refine imp_i (fun _ => ?_)))) | (with_reducible refine appK_a ?_) | (with_reducible refine freshQ_i (fun _ _ => ?_)) | (with_reducible refine nilQ_i (fun _ _ => ?_))))
                obtain ⟨hU, hlen, hmm⟩ := H.out
                have hkl := hk.1
                simp only [List.length_append] at hkl
                exact ⟨_, St.le.refl _, ⟨z2, E ++ M, rfl, by simp, by omega, by omega, hF _ (Bk.last M hs (by omega)), hSE.trans (Stb.append (Stb.refl _) hk)⟩, by simp only [tn0]; omega⟩
              · have H := Hid.mk (And.intro hlen hmm)
                clear hlen hmm
                (repeat' (first | (simp (config := { maxDischargeDepth := 16 }) only [*, ↓vD, vU, VE.ev, VE.evs, retvs, tupOf, grab, vfill, vbsl, eqCells, eqCell, veqs, veqs1, vmnx, AV.isCell, AV.isUndef, Nat.reduceEqDiff, Nat.reduceAdd, Nat.reduceSub, Nat.reduceLeDiff, Nat.reduceLT, reduceIte, reduceCtorEq, Nat.reduceBEq, k_app, k_slc1]) | (with_reducible refine gs (fun _ => ?_) (fun _ => ?_)) | (with_reducible refine cs_ (fun _ => ?_) (fun _ => ?_)) | (with_reducible refine objQ_i (fun _ _ => ?_); (repeat (with_reducible refine imp_i (fun _ => ?_)))) | (with_reducible refine appK_a ?_) | (with_reducible refine freshQ_i (fun _ _ => ?_)) | (with_reducible refine nilQ_i (fun _ _ => ?_))))
                obtain ⟨hlen, hmm⟩ := H.out
                exact ⟨_, St.le.refl _, ⟨z2, E ++ R, rfl, rfl, by omega, by omega, hF _ (Bk.last R (hBR.small (by omega) (by omega)) (by omega)), hSE⟩, by simp only [tn0]; omega⟩
        · have hfin : ys = sortS (ltB cf) xs := sortS_of o (hB.small (by omega) (by omega)) hS
          rw [hfin]
          clear hfin
          (repeat' (first | (simp (config := { maxDischargeDepth := 16 }) only [*, ↓vD, vU, VE.ev, VE.evs, retvs, tupOf, grab, vfill, vbsl, eqCells, eqCell, veqs, veqs1, vmnx, AV.isCell, AV.isUndef, Nat.reduceEqDiff, Nat.reduceAdd, Nat.reduceSub, Nat.reduceLeDiff, Nat.reduceLT, reduceIte, reduceCtorEq, Nat.reduceBEq, k_app, k_slc1]) | (with_reducible refine gs (fun _ => ?_) (fun _ => ?_)) | (with_reducible refine cs_ (fun _ => ?_) (fun _ => ?_)) | (with_reducible refine objQ_i (fun _ _ => ?_); (repeat (with_reducible refine imp_i (fun _ => ?_)))) | (with_reducible refine appK_a ?_) | (with_reducible refine freshQ_i (fun _ _ => ?_)) | (with_reducible refine nilQ_i (fun _ _ => ?_))))
theorem sortStable (f : α → AV) (hok : ∀ x, okEl 3 (f x) = true) (hag : ∀ x, AV.agg (f x).cells = f x) {gf : Nat} {fs cs : List AV} (cf : α → α → Int) (o : SWO (ltB cf)) (hc : ∀ x y, VPure Try.prog gf (fs ++ [f x, f y] ++ cs) (.int .i64 (cf x y)))
    (st : St) (bb L c : Nat) (rest : List AV) (xs : List α) (hL : xs.length = L) (hm : L ≤ 1000000000) :
    VCalls Try.prog Z 102 [.osl bb L c, .clo gf fs cs] (ob st bb f rest xs) (fun r s => r = .tup [] ∧ s = ob st bb f rest (sortS (ltB cf) xs)) := by
  have hst := stable (Z := Z) f hok hag cf o hc st bb L c rest xs hL hm
  refine VCalls.of v_slices_SortStableFunc_api_Seg_api_Seg_ok (Nat.le_of_ble_eq_true rfl) ?_
  simp only [v_slices_SortStableFunc_api_Seg_api_Seg, ↓vD, vU, VE.ev, VE.evs, retvs, tupOf, grab, vfill, vbsl, eqCells, eqCell, veqs, veqs1, vmnx, AV.isCell, AV.isUndef, Nat.reduceEqDiff, Nat.reduceAdd, Nat.reduceSub, Nat.reduceLeDiff, Nat.reduceLT, reduceIte, reduceCtorEq, Nat.reduceBEq, k_app, k_slc1]
  have hlen : ∀ (b n c : Nat), vlen (.osl b n c) = some (.int .i64 n) := fun _ _ _ => rfl
  (repeat' (first | (simp (config := { maxDischargeDepth := 16 }) only [*, ↓vD, vU, VE.ev, VE.evs, retvs, tupOf, grab, vfill, vbsl, eqCells, eqCell, veqs, veqs1, vmnx, AV.isCell, AV.isUndef, Nat.reduceEqDiff, Nat.reduceAdd, Nat.reduceSub, Nat.reduceLeDiff, Nat.reduceLT, reduceIte, reduceCtorEq, Nat.reduceBEq, k_app, k_slc1]) | (with_reducible refine gs (fun _ => ?_) (fun _ => ?_)) | (with_reducible refine cs_ (fun _ => ?_) (fun _ => ?_)) | (with_reducible refine objQ_i (fun _ _ => ?_); (repeat (with_reducible refine imp_i (fun _ => ?_)))) | (with_reducible refine appK_a ?_) | (with_reducible refine freshQ_i (fun _ _ => ?_)) | (with_reducible refine nilQ_i (fun _ _ => ?_))))
  refine callH_then hst ?_
  rintro _ _ ⟨rfl, rfl⟩
  clear hst
  (repeat' (first | (simp (config := { maxDischargeDepth := 16 }) only [*, ↓vD, vU, VE.ev, VE.evs, retvs, tupOf, grab, vfill, vbsl, eqCells, eqCell, veqs, veqs1, vmnx, AV.isCell, AV.isUndef, Nat.reduceEqDiff, Nat.reduceAdd, Nat.reduceSub, Nat.reduceLeDiff, Nat.reduceLT, reduceIte, reduceCtorEq, Nat.reduceBEq, k_app, k_slc1]) | (with_reducible refine gs (fun _ => ?_) (fun _ => ?_)) | (with_reducible refine cs_ (fun _ => ?_) (fun _ => ?_)) | (with_reducible refine objQ_i (fun _ _ => ?_); (repeat (with_reducible refine imp_i (fun _ => ?_)))) | (with_reducible refine appK_a ?_) | (with_reducible refine freshQ_i (fun _ _ => ?_)) | (with_reducible refine nilQ_i (fun _ _ => ?_))))
theorem insertion_nil (t : Tok) (cl : AV) : VPure Try.prog 151 [.sl [] t, .int .i64 0, .int .i64 0, cl] (.tup []) := by
  refine VPure.of v_slices_insertionSortCmpFunc_api_Seg_ok (Nat.le_of_ble_eq_true rfl) (fun Z st => ?_)
  simp only [v_slices_insertionSortCmpFunc_api_Seg, ↓vD, vU, VE.ev, VE.evs, retvs, tupOf, grab, vfill, vbsl, eqCells, eqCell, veqs, veqs1, vmnx, AV.isCell, AV.isUndef, Nat.reduceEqDiff, Nat.reduceAdd, Nat.reduceSub, Nat.reduceLeDiff, Nat.reduceLT, reduceIte, reduceCtorEq, Nat.reduceBEq, k_app, k_slc1]
  refine loop_out ?_
  (repeat' (first | (simp (config := { maxDischargeDepth := 16 }) only [*, vX, Int.reduceLE, Int.reduceLT, Int.reduceGE, Int.reduceGT, Int.reduceBEq, Int.reduceBNe, Int.reduceAdd, Int.reduceSub, Int.reduceMul, Int.reduceNeg, ↓vD, vU, VE.ev, VE.evs, retvs, tupOf, grab, vfill, vbsl, eqCells, eqCell, veqs, veqs1, vmnx, AV.isCell, AV.isUndef, Nat.reduceEqDiff, Nat.reduceAdd, Nat.reduceSub, Nat.reduceLeDiff, Nat.reduceLT, reduceIte, reduceCtorEq, Nat.reduceBEq]) | (simp (disch := first | assumption | omega | exact Seg.len _ | exact Vec.len _ | exact Leg.len _ | exact num_len _ | exact rowA_len _ | exact rowA_len | exact rowT_len _ | exact rowT_len | exact Seg.len | exact Vec.len | exact Leg.len | exact num_len | exact AV.slen _ _ | rfl) only [vP]) | (with_reducible (first | refine gsnd (fun _ => ?_) (fun _ => ?_) | refine csnd (fun _ => ?_) (fun _ => ?_) | refine gsd (fun _ => ?_) (fun _ => ?_) | refine csd (fun _ => ?_) (fun _ => ?_) | refine gsn (fun _ => ?_) (fun _ => ?_) | refine csn (fun _ => ?_) (fun _ => ?_))) | (with_reducible refine gs (fun _ => ?_) (fun _ => ?_)) | (with_reducible refine cs_ (fun _ => ?_) (fun _ => ?_)) | (with_reducible refine objQ_i (fun _ _ => ?_); (repeat (with_reducible refine imp_i (fun _ => ?_)))) | ((try with_reducible refine appK_a ?_); first | (with_reducible refine appD_F (by refine ⟨?_, ?_, ?_, ?_⟩ <;> (first | assumption | omega | exact St.has_add (by assumption) | (simp only [ins_has]; exact St.has_add (by assumption)) | (simp only [ins_has, fresh_ins, kill_ins, add_ins] at *; exact St.has_add (by assumption)) | (simp only [*, ins_has, has_full, St.has_add]; done) | (simp [-List.map_take, -List.map_drop, or_imp, forall_and, Seg.a, Vec.a, Leg.a, num, okEl, cells_agg, cells_int, cells_sl, cells_bool, AV.isCell]; done) | (simp; omega))) (fun _ _ => ?_)) | (with_reducible refine appD_V (by refine ⟨?_, ?_, ?_, ?_, ?_⟩ <;> (first | assumption | omega | exact St.has_add (by assumption) | (simp only [ins_has]; exact St.has_add (by assumption)) | (simp only [ins_has, fresh_ins, kill_ins, add_ins] at *; exact St.has_add (by assumption)) | (simp only [*, ins_has, has_full, St.has_add]; done) | (simp [-List.map_take, -List.map_drop, or_imp, forall_and, Seg.a, Vec.a, Leg.a, num, okEl, cells_agg, cells_int, cells_sl, cells_bool, AV.isCell]; done) | (simp; omega))) (fun _ _ => ?_))) | (with_reducible refine freshQ_i (fun _ _ => ?_)) | (with_reducible refine nilQ_i (fun _ _ => ?_))))
theorem stable_nil (t : Tok) (cl : AV) : VPure Try.prog 139 [.sl [] t, .int .i64 0, cl] (.tup []) := by
  refine VPure.of v_slices_stableCmpFunc_api_Seg_ok (Nat.le_of_ble_eq_true rfl) (fun Z st => ?_)
  simp only [v_slices_stableCmpFunc_api_Seg, ↓vD, vU, VE.ev, VE.evs, retvs, tupOf, grab, vfill, vbsl, eqCells, eqCell, veqs, veqs1, vmnx, AV.isCell, AV.isUndef, Nat.reduceEqDiff, Nat.reduceAdd, Nat.reduceSub, Nat.reduceLeDiff, Nat.reduceLT, reduceIte, reduceCtorEq, Nat.reduceBEq, k_app, k_slc1]
  refine loop_out ?_
  (repeat' (first | (simp (config := { maxDischargeDepth := 16 }) only [*, vX, Int.reduceLE, Int.reduceLT, Int.reduceGE, Int.reduceGT, Int.reduceBEq, Int.reduceBNe, Int.reduceAdd, Int.reduceSub, Int.reduceMul, Int.reduceNeg, ↓vD, vU, VE.ev, VE.evs, retvs, tupOf, grab, vfill, vbsl, eqCells, eqCell, veqs, veqs1, vmnx, AV.isCell, AV.isUndef, Nat.reduceEqDiff, Nat.reduceAdd, Nat.reduceSub, Nat.reduceLeDiff, Nat.reduceLT, reduceIte, reduceCtorEq, Nat.reduceBEq]) | (simp (disch := first | assumption | omega | exact Seg.len _ | exact Vec.len _ | exact Leg.len _ | exact num_len _ | exact rowA_len _ | exact rowA_len | exact rowT_len _ | exact rowT_len | exact Seg.len | exact Vec.len | exact Leg.len | exact num_len | exact AV.slen _ _ | rfl) only [vP]) | (with_reducible (first | refine gsnd (fun _ => ?_) (fun _ => ?_) | refine csnd (fun _ => ?_) (fun _ => ?_) | refine gsd (fun _ => ?_) (fun _ => ?_) | refine csd (fun _ => ?_) (fun _ => ?_) | refine gsn (fun _ => ?_) (fun _ => ?_) | refine csn (fun _ => ?_) (fun _ => ?_))) | (with_reducible refine gs (fun _ => ?_) (fun _ => ?_)) | (with_reducible refine cs_ (fun _ => ?_) (fun _ => ?_)) | (with_reducible refine objQ_i (fun _ _ => ?_); (repeat (with_reducible refine imp_i (fun _ => ?_)))) | ((try with_reducible refine appK_a ?_); first | (with_reducible refine appD_F (by refine ⟨?_, ?_, ?_, ?_⟩ <;> (first | assumption | omega | exact St.has_add (by assumption) | (simp only [ins_has]; exact St.has_add (by assumption)) | (simp only [ins_has, fresh_ins, kill_ins, add_ins] at *; exact St.has_add (by assumption)) | (simp only [*, ins_has, has_full, St.has_add]; done) | (simp [-List.map_take, -List.map_drop, or_imp, forall_and, Seg.a, Vec.a, Leg.a, num, okEl, cells_agg, cells_int, cells_sl, cells_bool, AV.isCell]; done) | (simp; omega))) (fun _ _ => ?_)) | (with_reducible refine appD_V (by refine ⟨?_, ?_, ?_, ?_, ?_⟩ <;> (first | assumption | omega | exact St.has_add (by assumption) | (simp only [ins_has]; exact St.has_add (by assumption)) | (simp only [ins_has, fresh_ins, kill_ins, add_ins] at *; exact St.has_add (by assumption)) | (simp only [*, ins_has, has_full, St.has_add]; done) | (simp [-List.map_take, -List.map_drop, or_imp, forall_and, Seg.a, Vec.a, Leg.a, num, okEl, cells_agg, cells_int, cells_sl, cells_bool, AV.isCell]; done) | (simp; omega))) (fun _ _ => ?_))) | (with_reducible refine freshQ_i (fun _ _ => ?_)) | (with_reducible refine nilQ_i (fun _ _ => ?_)) | (with_reducible first | refine callH_use (insertion_nil _ _) ?_ | refine pureQ_use (insertion_nil _ _) ?_)))
  refine loop_out ?_
  (repeat' (first | (simp (config := { maxDischargeDepth := 16 }) only [*, vX, Int.reduceLE, Int.reduceLT, Int.reduceGE, Int.reduceGT, Int.reduceBEq, Int.reduceBNe, Int.reduceAdd, Int.reduceSub, Int.reduceMul, Int.reduceNeg, ↓vD, vU, VE.ev, VE.evs, retvs, tupOf, grab, vfill, vbsl, eqCells, eqCell, veqs, veqs1, vmnx, AV.isCell, AV.isUndef, Nat.reduceEqDiff, Nat.reduceAdd, Nat.reduceSub, Nat.reduceLeDiff, Nat.reduceLT, reduceIte, reduceCtorEq, Nat.reduceBEq]) | (simp (disch := first | assumption | omega | exact Seg.len _ | exact Vec.len _ | exact Leg.len _ | exact num_len _ | exact rowA_len _ | exact rowA_len | exact rowT_len _ | exact rowT_len | exact Seg.len | exact Vec.len | exact Leg.len | exact num_len | exact AV.slen _ _ | rfl) only [vP]) | (with_reducible (first | refine gsnd (fun _ => ?_) (fun _ => ?_) | refine csnd (fun _ => ?_) (fun _ => ?_) | refine gsd (fun _ => ?_) (fun _ => ?_) | refine csd (fun _ => ?_) (fun _ => ?_) | refine gsn (fun _ => ?_) (fun _ => ?_) | refine csn (fun _ => ?_) (fun _ => ?_))) | (with_reducible refine gs (fun _ => ?_) (fun _ => ?_)) | (with_reducible refine cs_ (fun _ => ?_) (fun _ => ?_)) | (with_reducible refine objQ_i (fun _ _ => ?_); (repeat (with_reducible refine imp_i (fun _ => ?_)))) | ((try with_reducible refine appK_a ?_); first | (with_reducible refine appD_F (by refine ⟨?_, ?_, ?_, ?_⟩ <;> (first | assumption | omega | exact St.has_add (by assumption) | (simp only [ins_has]; exact St.has_add (by assumption)) | (simp only [ins_has, fresh_ins, kill_ins, add_ins] at *; exact St.has_add (by assumption)) | (simp only [*, ins_has, has_full, St.has_add]; done) | (simp [-List.map_take, -List.map_drop, or_imp, forall_and, Seg.a, Vec.a, Leg.a, num, okEl, cells_agg, cells_int, cells_sl, cells_bool, AV.isCell]; done) | (simp; omega))) (fun _ _ => ?_)) | (with_reducible refine appD_V (by refine ⟨?_, ?_, ?_, ?_, ?_⟩ <;> (first | assumption | omega | exact St.has_add (by assumption) | (simp only [ins_has]; exact St.has_add (by assumption)) | (simp only [ins_has, fresh_ins, kill_ins, add_ins] at *; exact St.has_add (by assumption)) | (simp only [*, ins_has, has_full, St.has_add]; done) | (simp [-List.map_take, -List.map_drop, or_imp, forall_and, Seg.a, Vec.a, Leg.a, num, okEl, cells_agg, cells_int, cells_sl, cells_bool, AV.isCell]; done) | (simp; omega))) (fun _ _ => ?_))) | (with_reducible refine freshQ_i (fun _ _ => ?_)) | (with_reducible refine nilQ_i (fun _ _ => ?_))))
theorem sortStable_nil (t : Tok) (cl : AV) : VPure Try.prog 102 [.sl [] t, cl] (.tup []) := by
  refine VPure.of v_slices_SortStableFunc_api_Seg_api_Seg_ok (Nat.le_of_ble_eq_true rfl) (fun Z st => ?_)
  simp only [v_slices_SortStableFunc_api_Seg_api_Seg, ↓vD, vU, VE.ev, VE.evs, retvs, tupOf, grab, vfill, vbsl, eqCells, eqCell, veqs, veqs1, vmnx, AV.isCell, AV.isUndef, Nat.reduceEqDiff, Nat.reduceAdd, Nat.reduceSub, Nat.reduceLeDiff, Nat.reduceLT, reduceIte, reduceCtorEq, Nat.reduceBEq, k_app, k_slc1]
  (repeat' (first | (simp (config := { maxDischargeDepth := 16 }) only [*, vX, Int.reduceLE, Int.reduceLT, Int.reduceGE, Int.reduceGT, Int.reduceBEq, Int.reduceBNe, Int.reduceAdd, Int.reduceSub, Int.reduceMul, Int.reduceNeg, ↓vD, vU, VE.ev, VE.evs, retvs, tupOf, grab, vfill, vbsl, eqCells, eqCell, veqs, veqs1, vmnx, AV.isCell, AV.isUndef, Nat.reduceEqDiff, Nat.reduceAdd, Nat.reduceSub, Nat.reduceLeDiff, Nat.reduceLT, reduceIte, reduceCtorEq, Nat.reduceBEq]) | (simp (disch := first | assumption | omega | exact Seg.len _ | exact Vec.len _ | exact Leg.len _ | exact num_len _ | exact rowA_len _ | exact rowA_len | exact rowT_len _ | exact rowT_len | exact Seg.len | exact Vec.len | exact Leg.len | exact num_len | exact AV.slen _ _ | rfl) only [vP]) | (with_reducible (first | refine gsnd (fun _ => ?_) (fun _ => ?_) | refine csnd (fun _ => ?_) (fun _ => ?_) | refine gsd (fun _ => ?_) (fun _ => ?_) | refine csd (fun _ => ?_) (fun _ => ?_) | refine gsn (fun _ => ?_) (fun _ => ?_) | refine csn (fun _ => ?_) (fun _ => ?_))) | (with_reducible refine gs (fun _ => ?_) (fun _ => ?_)) | (with_reducible refine cs_ (fun _ => ?_) (fun _ => ?_)) | (with_reducible refine objQ_i (fun _ _ => ?_); (repeat (with_reducible refine imp_i (fun _ => ?_)))) | ((try with_reducible refine appK_a ?_); first | (with_reducible refine appD_F (by refine ⟨?_, ?_, ?_, ?_⟩ <;> (first | assumption | omega | exact St.has_add (by assumption) | (simp only [ins_has]; exact St.has_add (by assumption)) | (simp only [ins_has, fresh_ins, kill_ins, add_ins] at *; exact St.has_add (by assumption)) | (simp only [*, ins_has, has_full, St.has_add]; done) | (simp [-List.map_take, -List.map_drop, or_imp, forall_and, Seg.a, Vec.a, Leg.a, num, okEl, cells_agg, cells_int, cells_sl, cells_bool, AV.isCell]; done) | (simp; omega))) (fun _ _ => ?_)) | (with_reducible refine appD_V (by refine ⟨?_, ?_, ?_, ?_, ?_⟩ <;> (first | assumption | omega | exact St.has_add (by assumption) | (simp only [ins_has]; exact St.has_add (by assumption)) | (simp only [ins_has, fresh_ins, kill_ins, add_ins] at *; exact St.has_add (by assumption)) | (simp only [*, ins_has, has_full, St.has_add]; done) | (simp [-List.map_take, -List.map_drop, or_imp, forall_and, Seg.a, Vec.a, Leg.a, num, okEl, cells_agg, cells_int, cells_sl, cells_bool, AV.isCell]; done) | (simp; omega))) (fun _ _ => ?_))) | (with_reducible refine freshQ_i (fun _ _ => ?_)) | (with_reducible refine nilQ_i (fun _ _ => ?_)) | (with_reducible first | refine callH_use (stable_nil _ _) ?_ | refine pureQ_use (stable_nil _ _) ?_)))
end Go.Proofs.Ytddbnncimggogaa.V.SoSeg
end
section
set_option linter.unusedSimpArgs false
set_option linter.unusedVariables false
/- rle.folded, Of, Box. -/
namespace Go.Proofs.Ytddbnncimggogaa.V
open Go Go.Proofs Go.Proofs.Ytddbnncimggogaa.SP
set_option maxRecDepth 100000
theorem Seg.ok (x : Seg) : okEl 3 x.a = true := rfl
theorem Seg.ag (x : Seg) : AV.agg x.a.cells = x.a := rfl
theorem Clone_v {Z : Im} (xs : List Seg) (hn : xs.length ≤ 1000000000) (t : Tok) (st : St) : VCalls Try.prog Z 101 [.sl (xs.map Seg.a) t] st
    (fun r s => (xs = [] ∧ ∃ t', r = .sl [] t' ∧ s = st) ∨ ∃ b c rest, xs ≠ [] ∧ st.objs b = none ∧ r = .osl b xs.length c ∧ s = ob st b Seg.a rest xs) := by
  refine VCalls.of v_slices_Clone_api_Seg_api_Seg_ok (Nat.le_of_ble_eq_true rfl) ?_
  simp only [v_slices_Clone_api_Seg_api_Seg, ↓vD, vU, VE.ev, VE.evs, retvs, tupOf, grab, vfill, vbsl, eqCells, eqCell, veqs, veqs1, vmnx, AV.isCell, AV.isUndef, Nat.reduceEqDiff, Nat.reduceAdd, Nat.reduceSub, Nat.reduceLeDiff, Nat.reduceLT, reduceIte, reduceCtorEq, Nat.reduceBEq, k_app, k_slc1]
  cases xs with
  | nil =>
    (repeat' (first | (simp (config := { maxDischargeDepth := 16 }) only [*, ↓vD, vU, VE.ev, VE.evs, retvs, tupOf, grab, vfill, vbsl, eqCells, eqCell, veqs, veqs1, vmnx, AV.isCell, AV.isUndef, Nat.reduceEqDiff, Nat.reduceAdd, Nat.reduceSub, Nat.reduceLeDiff, Nat.reduceLT, reduceIte, reduceCtorEq, Nat.reduceBEq, k_app, k_slc1]) | (with_reducible refine gs (fun _ => ?_) (fun _ => ?_)) | (with_reducible refine cs_ (fun _ => ?_) (fun _ => ?_)) | (with_reducible refine objQ_i (fun _ _ => ?_); (repeat (with_reducible refine imp_i (fun _ => ?_)))) | (with_reducible refine appK_a ?_) | (with_reducible refine freshQ_i (fun _ _ => ?_)) | (with_reducible refine nilQ_i (fun _ _ => ?_))))
    · exact ⟨st, St.le.refl _, .inl ⟨_, rfl, rfl⟩⟩
    · refine ⟨by simp, by simp, by simp, ?_⟩
      (repeat' (first | (simp (config := { maxDischargeDepth := 16 }) only [*, ↓vD, vU, VE.ev, VE.evs, retvs, tupOf, grab, vfill, vbsl, eqCells, eqCell, veqs, veqs1, vmnx, AV.isCell, AV.isUndef, Nat.reduceEqDiff, Nat.reduceAdd, Nat.reduceSub, Nat.reduceLeDiff, Nat.reduceLT, reduceIte, reduceCtorEq, Nat.reduceBEq, k_app, k_slc1]) | (with_reducible refine gs (fun _ => ?_) (fun _ => ?_)) | (with_reducible refine cs_ (fun _ => ?_) (fun _ => ?_)) | (with_reducible refine objQ_i (fun _ _ => ?_); (repeat (with_reducible refine imp_i (fun _ => ?_)))) | (with_reducible refine appK_a ?_) | (with_reducible refine freshQ_i (fun _ _ => ?_)) | (with_reducible refine nilQ_i (fun _ _ => ?_))))
      exact ⟨st, le_add (St.le.refl _) _, .inl ⟨_, rfl, rfl⟩⟩
  | cons x xs =>
    (repeat' (first | (simp (config := { maxDischargeDepth := 16 }) only [*, ↓vD, vU, VE.ev, VE.evs, retvs, tupOf, grab, vfill, vbsl, eqCells, eqCell, veqs, veqs1, vmnx, AV.isCell, AV.isUndef, Nat.reduceEqDiff, Nat.reduceAdd, Nat.reduceSub, Nat.reduceLeDiff, Nat.reduceLT, reduceIte, reduceCtorEq, Nat.reduceBEq, k_app, k_slc1]) | (with_reducible refine gs (fun _ => ?_) (fun _ => ?_)) | (with_reducible refine cs_ (fun _ => ?_) (fun _ => ?_)) | (with_reducible refine objQ_i (fun _ _ => ?_); (repeat (with_reducible refine imp_i (fun _ => ?_)))) | (with_reducible refine freshQ_i (fun _ _ => ?_)) | (with_reducible refine nilQ_i (fun _ _ => ?_))))
    refine appK_new (by simp) (by simp) ?_ (by simp at hn ⊢; omega) (by simp at hn ⊢; omega) ?_
    · intro y hy
      rcases List.mem_cons.1 hy with rfl | hy
      · rfl
      · obtain ⟨z, _, rfl⟩ := List.mem_map.1 hy; rfl
    · intro b c rest hb hc hr
      (repeat' (first | (simp (config := { maxDischargeDepth := 16 }) only [*, ↓vD, vU, VE.ev, VE.evs, retvs, tupOf, grab, vfill, vbsl, eqCells, eqCell, veqs, veqs1, vmnx, AV.isCell, AV.isUndef, Nat.reduceEqDiff, Nat.reduceAdd, Nat.reduceSub, Nat.reduceLeDiff, Nat.reduceLT, reduceIte, reduceCtorEq, Nat.reduceBEq, k_app, k_slc1]) | (with_reducible refine gs (fun _ => ?_) (fun _ => ?_)) | (with_reducible refine cs_ (fun _ => ?_) (fun _ => ?_)) | (with_reducible refine objQ_i (fun _ _ => ?_); (repeat (with_reducible refine imp_i (fun _ => ?_)))) | (with_reducible refine appK_a ?_) | (with_reducible refine freshQ_i (fun _ _ => ?_)) | (with_reducible refine nilQ_i (fun _ _ => ?_))))
      exact ⟨_, St.le.refl _, .inr ⟨b, c, rest, hb, rfl, by simp [ob, fl]⟩⟩
theorem put_v {Z : Im} (st0 st : St) (b4 b5 : Nat) (h4 : st.objs b4 = none) (h5 : st.objs b5 = none) (n45 : ¬ b5 = b4) (acc : List Seg) (tk : Tok) (l : Vec) (t m c : Int) (hn : acc.length ≤ 1000000000) (ht : Ours 3 st0 st tk) :
    VCalls Try.prog Z 104 [.agg [.int .i64 t, .int .i64 m, .int .i64 c], .ptr b5 0, .ptr b4 0] ((st.ins b4 (.cells [.sl (acc.map Seg.a) tk])).ins b5 (.cells [.int .i64 l.m, .int .i64 l.c]))
      (fun r s => r = .tup [] ∧ ∃ tk' st', Ours 3 st0 st' tk' ∧ s = (st'.ins b4 (.cells [.sl ((putF acc l ⟨t, ⟨m, c⟩⟩).1.map Seg.a) tk'])).ins b5 (.cells [.int .i64 (putF acc l ⟨t, ⟨m, c⟩⟩).2.m, .int .i64 (putF acc l ⟨t, ⟨m, c⟩⟩).2.c])) := by
  have n54 : ¬ b4 = b5 := fun e => n45 e.symm
  have hts := ht.has
  obtain ⟨lm, lc⟩ := l
  refine VCalls.of v_rle_folded_1_ok (Nat.le_of_ble_eq_true rfl) ?_
  simp only [v_rle_folded_1, ↓vD, vU, VE.ev, VE.evs, retvs, tupOf, grab, vfill, vbsl, eqCells, eqCell, veqs, veqs1, vmnx, AV.isCell, AV.isUndef, Nat.reduceEqDiff, Nat.reduceAdd, Nat.reduceSub, Nat.reduceLeDiff, Nat.reduceLT, reduceIte, reduceCtorEq, Nat.reduceBEq, k_app, k_slc1]
  (repeat' (first | (simp (config := { maxDischargeDepth := 16 }) only [*, ↓vD, vU, VE.ev, VE.evs, retvs, tupOf, grab, vfill, vbsl, eqCells, eqCell, veqs, veqs1, vmnx, AV.isCell, AV.isUndef, Nat.reduceEqDiff, Nat.reduceAdd, Nat.reduceSub, Nat.reduceLeDiff, Nat.reduceLT, reduceIte, reduceCtorEq, Nat.reduceBEq, k_app, k_slc1]) | (with_reducible refine gs (fun _ => ?_) (fun _ => ?_)) | (with_reducible refine cs_ (fun _ => ?_) (fun _ => ?_)) | (with_reducible refine objQ_i (fun _ _ => ?_); (repeat (with_reducible refine imp_i (fun _ => ?_)))) | (with_reducible refine appK_a ?_) | (with_reducible refine freshQ_i (fun _ _ => ?_)) | (with_reducible refine nilQ_i (fun _ _ => ?_))))
  · rename_i b6 h6 n1 n2 n3 n4 hc
    have hne : ¬ (⟨t, ⟨m, c⟩⟩ : Seg).v = ⟨lm, lc⟩ := fun e => by simp only [Vec.mk.injEq] at e; simp [e.1, e.2] at hc
    rw [putF_yes hne]
    refine ⟨by simp [Seg.a, cells_agg], by simp [okEl, AV.cells, AV.isCell], by omega, by omega, ?_⟩
    have hob : (st.kill tk).objs = st.objs := kill_objs ..
    intro t' hf
    have hn' := ht.next (t' := t') (by simpa only [St.fresh, St.ins] using hf)
    (repeat' (first | (simp (config := { maxDischargeDepth := 16 }) only [*, ↓vD, vU, VE.ev, VE.evs, retvs, tupOf, grab, vfill, vbsl, eqCells, eqCell, veqs, veqs1, vmnx, AV.isCell, AV.isUndef, Nat.reduceEqDiff, Nat.reduceAdd, Nat.reduceSub, Nat.reduceLeDiff, Nat.reduceLT, reduceIte, reduceCtorEq, Nat.reduceBEq, k_app, k_slc1]) | (with_reducible refine gs (fun _ => ?_) (fun _ => ?_)) | (with_reducible refine cs_ (fun _ => ?_) (fun _ => ?_)) | (with_reducible refine objQ_i (fun _ _ => ?_); (repeat (with_reducible refine imp_i (fun _ => ?_)))) | (with_reducible refine appK_a ?_) | (with_reducible refine freshQ_i (fun _ _ => ?_)) | (with_reducible refine nilQ_i (fun _ _ => ?_))))
    refine ⟨_, ?_, t', _, hn', rfl⟩
    simp only [List.map_append, List.map_cons, List.map_nil, Seg.a]
    (refine ⟨fun i o e => ?_, fun _ h => h⟩; revert e; simp only [St.ins, St.del, add_objs, kill_objs]; (repeat' split); all_goals (first | exact id | (intros; contradiction) | (intros; subst_vars; contradiction) | (intros; simp_all; done) | (intros; subst_vars; simp_all; done)))
  · rename_i b6 h6 n1 n2 n3 n4 hc
    have hne : (⟨t, ⟨m, c⟩⟩ : Seg).v = ⟨lm, lc⟩ := by simpa using hc
    rw [putF_no hne]
    refine ⟨_, ?_, tk, _, ht, rfl⟩
    (refine ⟨fun i o e => ?_, fun _ h => h⟩; revert e; simp only [St.ins, St.del, add_objs, kill_objs]; (repeat' split); all_goals (first | exact id | (intros; contradiction) | (intros; subst_vars; contradiction) | (intros; simp_all; done) | (intros; subst_vars; simp_all; done)))
end Go.Proofs.Ytddbnncimggogaa.V
end
