/- Texts of this claim, joined: C17b, Pcalc5, Pfit, Pfit2, Pcost2, C17c, O17, O17b. -/
import Derived.Test.YtglekfgoadehbaaQCostSums5
import Derived.Test.YtglekfgoadehbaaQCostSums4
import Derived.Test.YtglekfgoadehbaaQCostSums3
section
set_option linter.unusedSimpArgs false
set_option linter.unusedVariables false
/- CostBest, walked. -/
namespace Go.Proofs.Ytglekfgoadehbaa.V
open Go Go.Proofs
set_option maxRecDepth 100000
set_option maxHeartbeats 4000000
/-- A load, a function, a window, legs, how many are asked for. -/
structure Ask17 where
  load : List Seg
  f : List Seg
  w : Vec
  l : List Leg
  many : Int
  deriving Inhabited
def Ask17.a (x : Ask17) : AV := .agg [.sl (x.load.map Seg.a) .no, .sl (x.f.map Seg.a) .no, .int .i64 x.w.m, .int .i64 x.w.c, .sl (x.l.map Leg.a) .no, .int .i64 x.many]
def wfAsk17 (x : Ask17) : Prop := ((∀ y ∈ x.load, wfSeg y) ∧ (x.load.length : Int) ≤ 9223372036854775807) ∧ ((∀ y ∈ x.f, wfSeg y) ∧ (x.f.length : Int) ≤ 9223372036854775807) ∧ wfVec x.w ∧ ((∀ y ∈ x.l, wfLeg y) ∧ (x.l.length : Int) ≤ 9223372036854775807) ∧ (-9223372036854775808 ≤ x.many ∧ x.many ≤ 9223372036854775807)
/-- What the best ones are, where there are some. -/
structure Best17 (load f : List Seg) (w : Vec) (l : List Leg) (many : Int) (A : List Vec) (T B : List Int) (p : Int → Int) : Prop where
  rows : RowsG w.m (w.c + 1) A
  to : ∀ x ∈ A, x.c ≤ w.c
  win : -1099511627776 ≤ w.m ∧ w.m < w.c ∧ w.c ≤ 1099511627776 ∧ w.c - w.m ≤ 4096
  all : T = allT A
  up : T.Pairwise (· < ·)
  best : B = (bestL p T).take many.toNat
  cost : ∀ t ∈ T, costE load t l = (p t, 0)
  cheap : ∃ r, B = (cheapF load f w l).1 :: r
  least : (cheapF load f w l).2 = p (cheapF load f w l).1
  beg : begE load f w l = 0
  begs : beginsF f w l = (A, 0)
  num : 1 ≤ many ∧ many ≤ 64
theorem Best17.len {load f : List Seg} {w : Vec} {l : List Leg} {many : Int} {A : List Vec} {T B : List Int} {p : Int → Int} (h : Best17 load f w l many A T B p) : (B.length : Int) = min (T.length : Int) many := by
  rw [h.best, List.length_take, len_bestL]
  have := h.num
  omega
theorem Best17.mem {load f : List Seg} {w : Vec} {l : List Leg} {many : Int} {A : List Vec} {T B : List Int} {p : Int → Int} (h : Best17 load f w l many A T B p) : ∀ t ∈ B, t ∈ T := fun t ht => by
  rw [h.best] at ht
  exact (mem_bestL p).1 (List.mem_of_mem_take ht)
theorem Best17.next {load f : List Seg} {w : Vec} {l : List Leg} {many : Int} {A : List Vec} {T B : List Int} {p : Int → Int} (h : Best17 load f w l many A T B p) {q : Nat} (hq : q + 1 < B.length) : kLt p B[q] B[q + 1] := by
  have hup := bestL_up p h.up
  have : B.Pairwise (kLt p) := by rw [h.best]; exact hup.sublist (List.take_sublist _ _)
  exact List.pairwise_iff_getElem.1 this q (q + 1) (by omega) hq (by omega)
theorem Best17.rest {load f : List Seg} {w : Vec} {l : List Leg} {many : Int} {A : List Vec} {T B : List Int} {p : Int → Int} (h : Best17 load f w l many A T B p) {t : Int} (ht : t ∈ T) (hn : t ∉ B) : ∀ y ∈ B, kLt p y t := fun y hy => by
  rw [h.best] at hn hy
  exact bestL_rest p h.up _ ht hn y hy
end Go.Proofs.Ytglekfgoadehbaa.V
end
section
set_option linter.unusedSimpArgs false
set_option linter.unusedVariables false
/- Boxes, windows: plain. -/
namespace Go.Proofs.Ytglekfgoadehbaa.V
open Go Go.Proofs Go.Proofs.Ytglekfgoadehbaa.SP
end Go.Proofs.Ytglekfgoadehbaa.V
end
section
set_option linter.unusedSimpArgs false
set_option linter.unusedVariables false
/- What fits, and units, in plain Lean. -/
namespace Go.Proofs.Ytglekfgoadehbaa.V
open Go Go.Proofs
end Go.Proofs.Ytglekfgoadehbaa.V
end
section
set_option linter.unusedSimpArgs false
set_option linter.unusedVariables false
/- What is free, in plain Lean. -/
namespace Go.Proofs.Ytglekfgoadehbaa.V
open Go Go.Proofs
structure Pol where
  k : Int
  cap : Vec
  win : Int
  deriving DecidableEq, Repr, Inhabited
end Go.Proofs.Ytglekfgoadehbaa.V
end
section
set_option linter.unusedSimpArgs false
set_option linter.unusedVariables false
/- Costs of legs, and of loads together, in plain Lean. -/
namespace Go.Proofs.Ytglekfgoadehbaa.V
open Go Go.Proofs
theorem costP_bd {load : List Seg} (hs : ∀ x ∈ load, small 17592186044416 x.v) {n : Int} (h0 : 0 ≤ n) (h1 : n ≤ 65536) (t : Int) : -2305843009213693952 ≤ costP load n t ∧ costP load n t ≤ 2305843009213693952 := by
  have hv : ∀ s, small 17592186044416 (atF load s) := fun s => atF_small (by omega) hs s
  have b1 := sumT_bd (fun s => (atF load s).m + (atF load s).c) 35184372088832 n.toNat t (fun s _ _ => by have := hv s; simp only [small] at this; omega)
  unfold costP
  have : (n.toNat : Int) = n := by omega
  omega
theorem costP_add (load : List Seg) {a b : Int} (ha : 0 ≤ a) (hb : 0 ≤ b) (t : Int) : costP load (a + b) t = costP load a t + costP load b (t + a) := by
  unfold costP
  rw [show (a + b).toNat = a.toNat + b.toNat by omega, sumT_add, show t + (a.toNat : Int) = t + a by omega]
theorem costP_zero (load : List Seg) (t : Int) : costP load 0 t = 0 := rfl
theorem add_ok {f g : List Seg} (hf : mayF f = true) (hg : mayF g = true) (h : (doR 0 f g).2 = 0) : mayF (doR 0 f g).1 = true ∧ ∀ s, (atF (doR 0 f g).1 s).m = (atF f s).m + (atF g s).m ∧ (atF (doR 0 f g).1 s).c = (atF f s).c + (atF g s).c := by
  obtain ⟨_, _, h3, h4⟩ := doR_may h
  refine ⟨h3, fun s => ?_⟩
  have := h4 s
  rw [add_val _ _ (may_at hf s) (may_at hg s)] at this
  obtain ⟨e, _⟩ := told_ok this
  rw [← e]
  exact ⟨rfl, rfl⟩
theorem costP_both {f g r : List Seg} (h : ∀ s, (atF r s).m = (atF f s).m + (atF g s).m ∧ (atF r s).c = (atF f s).c + (atF g s).c) (n t : Int) : costP r n t = costP f n t + costP g n t := by
  unfold costP
  rw [← sumT_split]
  refine sumT_congr _ _ _ _ (fun s _ _ => ?_)
  obtain ⟨h1, h2⟩ := h s
  omega
theorem costE_ok {load : List Seg} {t : Int} {l : List Leg} (h : (costE load t l).2 = 0) : mayF load = true ∧ (lengthF l).2 = 0 ∧ farF t = false ∧ load.any muchS = false ∧ costE load t l = (costP load (lengthF l).1 t, 0) := by
  unfold costE at h ⊢
  split at h
  · rename_i h1
    split at h
    · rename_i h2; simp only at h; exact absurd h h2
    · rename_i h2
      split at h
      · simp at h
      · rename_i h3
        simp only [Bool.not_eq_true, Bool.or_eq_false_iff] at h3
        rw [if_pos h1, if_neg h2, if_neg (by simp [h3.1, h3.2])]
        exact ⟨h1, by omega, h3.1, h3.2, rfl⟩
  · simp at h
theorem costE_is {load : List Seg} {t : Int} {l : List Leg} (h1 : mayF load = true) (h2 : (lengthF l).2 = 0) (h3 : farF t = false) (h4 : load.any muchS = false) : costE load t l = (costP load (lengthF l).1 t, 0) := by
  unfold costE
  rw [if_pos h1, if_neg (by omega), h3, h4]; rfl
theorem length_ok {l : List Leg} (h : (lengthF l).2 = 0) : (∀ x ∈ l, 1 ≤ x.d ∧ x.d ≤ 4096) ∧ (0 < l.length ∧ l.length ≤ 16) ∧ lengthF l = (sumD l, 0) := by
  unfold lengthF at h ⊢
  split at h
  · simp at h
  · rename_i hc
    rw [if_neg hc]
    simp only [Bool.or_eq_true, decide_eq_true_eq, not_or, Bool.not_eq_true] at hc
    obtain ⟨⟨h1, h2⟩, h3⟩ := hc
    refine ⟨fun x hx => ?_, by omega, rfl⟩
    have := List.any_eq_false.1 h1 x hx
    simp only [badD, Bool.or_eq_true, decide_eq_true_eq, not_or] at this
    omega
theorem length_of {l : List Leg} (h1 : ∀ x ∈ l, 1 ≤ x.d ∧ x.d ≤ 4096) (h2 : 0 < l.length ∧ l.length ≤ 16) : lengthF l = (sumD l, 0) := by
  unfold lengthF
  rw [if_neg]
  simp only [Bool.or_eq_true, decide_eq_true_eq, not_or, Bool.not_eq_true]
  refine ⟨⟨List.any_eq_false.2 fun x hx => ?_, by omega⟩, by omega⟩
  have := h1 x hx
  simp only [badD, Bool.or_eq_true, decide_eq_true_eq, not_or]
  omega
theorem sumD_bd {l : List Leg} (h1 : ∀ x ∈ l, 1 ≤ x.d ∧ x.d ≤ 4096) : 0 ≤ sumD l ∧ sumD l ≤ 4096 * l.length := by
  induction l with
  | nil => simp [sumD]
  | cons x r ih =>
    have := ih fun y hy => h1 y (by simp [hy])
    have := h1 x (by simp)
    simp only [sumD, List.length_cons]; omega
def plainL (l : List Leg) : List Leg := l.map fun x => ⟨x.d, v0⟩
theorem plain_len (l : List Leg) : (plainL l).length = l.length := by simp [plainL]
theorem sumD_plain : ∀ l : List Leg, sumD (plainL l) = sumD l
  | [] => rfl
  | x :: r => by simp only [plainL, List.map_cons, sumD]; rw [← sumD_plain r]; rfl
theorem length_plain {l : List Leg} (h : (lengthF l).2 = 0) : lengthF (plainL l) = lengthF l := by
  obtain ⟨h1, h2, h3⟩ := length_ok h
  rw [h3, length_of (fun x hx => ?_) (by rw [plain_len]; exact h2), sumD_plain]
  obtain ⟨y, hy, rfl⟩ := List.mem_map.1 hx
  exact h1 y hy
end Go.Proofs.Ytglekfgoadehbaa.V
end
section
set_option linter.unusedSimpArgs false
set_option linter.unusedVariables false
/- CostSums, walked. -/
namespace Go.Proofs.Ytglekfgoadehbaa.V
open Go Go.Proofs
set_option maxRecDepth 100000
set_option maxHeartbeats 4000000
def I32 (n : Int) : Prop := -2147483648 ≤ n ∧ n ≤ 2147483647
theorem Leg.ok (x : Leg) : okEl 3 x.a = true := rfl
theorem Leg.ag (x : Leg) : AV.agg x.a.cells = x.a := rfl
/-- A slice over an object, among others, becomes one that is never written again. -/
theorem Wk.freezeB (st : St) {sz b n c : Nat} (hp : 0 < sz) {xs rest : List AV} (hob : st.objs b = some (.cells (xs.flatMap AV.cells ++ rest))) (hn : n = xs.length) (hk : ∀ x ∈ xs, okEl sz x = true) : ∀ (pre post : List AV), Wk st (pre ++ .osl b n c :: post) (st.del b) (pre ++ .sl xs .no :: post)
  | [], post => fun B I W vs hr ha =>
    match vs, ha with
    | v :: vs, ha => by
      obtain ⟨J, q1, q2, q3⟩ := rel_freeze hr hp ha.1 hob hn hk
      exact ⟨J, q1, q2, q3, RepL.mono q1 _ _ ha.2⟩
    | [], ha => ha.elim
  | a :: pre, post => fun B I W vs hr ha =>
    match vs, ha with
    | v :: vs, ha => by
      obtain ⟨J, q1, q2, q3⟩ := Wk.freezeB st hp hob hn hk pre post B I W vs hr ha.2
      exact ⟨J, q1, q2, Rep.mono q1 _ _ ha.1, q3⟩
    | [], ha => ha.elim
theorem addC_two (f g : List Seg) : (addC [f, g]).1.length ≤ f.length + g.length ∧ ((addC [f, g]).2 = 0 → mayF f = true ∧ mayF g = true ∧ (doR 0 f g).2 = 0 ∧ (addC [f, g]).1 = (doR 0 f g).1) := by
  rw [addC_sum]
  unfold sumR
  split
  · rename_i h
    simp only [List.all_cons, List.all_nil, Bool.and_true, Bool.and_eq_true] at h
    unfold sumF
    rw [do_nil f h.1]
    simp only [if_true]
    unfold sumF
    split
    · rename_i h2
      unfold sumF
      exact ⟨doR_len 0 f g, fun _ => ⟨h.1, h.2, h2, rfl⟩⟩
    · rename_i h2
      exact ⟨by simp, fun e => absurd e h2⟩
  · exact ⟨by simp, fun e => by simp at e⟩
/-- A row of legs, whose first ones need nothing any more. -/
def midL (l : List Leg) (k : Nat) : List Leg := plainL (l.take k) ++ l.drop k
theorem midL_len (l : List Leg) (k : Nat) : (midL l k).length = l.length := by unfold midL; rw [List.length_append, plain_len, ← List.length_append, List.take_append_drop]
theorem midL_next {l : List Leg} {k : Nat} (h : k < l.length) (rest : List AV) : (fl Leg.a (midL l k) ++ rest).take (k * 3 + 1) ++ [.int .i64 0, .int .i64 0] ++ (fl Leg.a (midL l k) ++ rest).drop (k * 3 + 1 + 2) = fl Leg.a (midL l (k + 1)) ++ rest := by
  have hlen : (plainL (l.take k)).length = k := by rw [plain_len, List.length_take]; omega
  have e1 : fl Leg.a (midL l k) ++ rest = (fl Leg.a (plainL (l.take k)) ++ [.int .i64 l[k].d]) ++ ([.int .i64 l[k].v.m, .int .i64 l[k].v.c] ++ (fl Leg.a (l.drop (k + 1)) ++ rest)) := by
    unfold midL
    rw [List.drop_eq_getElem_cons h, fl_app, fl_cons]
    simp [Leg.a, cells_agg]
  have e2 : fl Leg.a (midL l (k + 1)) ++ rest = (fl Leg.a (plainL (l.take k)) ++ [.int .i64 l[k].d]) ++ ([.int .i64 0, .int .i64 0] ++ (fl Leg.a (l.drop (k + 1)) ++ rest)) := by
    unfold midL
    rw [List.take_add_one, List.getElem?_eq_getElem h]
    have : plainL (l.take k ++ (some l[k]).toList) = plainL (l.take k) ++ [⟨l[k].d, v0⟩] := by unfold plainL; rw [List.map_append]; rfl
    rw [this, fl_app, fl_app, fl_cons]
    simp [Leg.a, cells_agg, v0, fl]
  have hl : (fl Leg.a (plainL (l.take k)) ++ [AV.int .i64 l[k].d]).length = k * 3 + 1 := by rw [List.length_append, fl_len Leg.a 3 Leg.ok, hlen]; rfl
  rw [e1, e2, ← hl, List.take_left, ← List.drop_drop, List.drop_left]
  have : ([AV.int .i64 l[k].v.m, AV.int .i64 l[k].v.c] ++ (fl Leg.a (l.drop (k + 1)) ++ rest)).drop 2 = fl Leg.a (l.drop (k + 1)) ++ rest := rfl
  rw [this, List.append_assoc]
theorem costSums_v (x : Ask17) (hx : wfAsk17 x) (more : List Seg) (_ : ∀ y ∈ more, wfSeg y) (hmo : (more.length : Int) ≤ 9223372036854775807) (t : Int) (ht : I32 t) : VPure Try.prog 7 [x.a, .sl (more.map Seg.a) .no, .int .i32 t] (.bool true) := by
  obtain ⟨load, f, w, l, many⟩ := x
  obtain ⟨⟨_, hl1⟩, ⟨_, hl2⟩, _, ⟨_, hl3⟩, _⟩ := hx
  obtain ⟨ht1, ht2⟩ := ht
  simp only at hl1 hl2 hl3
  simp only [Ask17.a]
  have hg := great_17 load hl1 f hl2 w l hl3 many .no .no .no
  refine VPure.of v_liverylaw17_CostSums_ok (Nat.le_of_ble_eq_true rfl) (fun Z st => ?_)
  by_cases hgr : great17 load f w l = true
  · rw [hgr] at hg
    clear hgr
    simp only [v_liverylaw17_CostSums, ↓vD, vU, ↓vMd, vMu, VE.ev, VE.evs, retvs, tupOf, grab, vfill, vbsl, eqCells, eqCell, veqs, veqs1, vmnx, AV.isCell, AV.isUndef, Nat.reduceEqDiff, Nat.reduceAdd, Nat.reduceSub, Nat.reduceLeDiff, Nat.reduceLT, reduceIte, reduceCtorEq, Nat.reduceBEq, k_app, k_slc1]
    (repeat' (first | (simp (config := { maxDischargeDepth := 16 }) only [*, vX, Int.reduceLE, Int.reduceLT, Int.reduceGE, Int.reduceGT, Int.reduceBEq, Int.reduceBNe, Int.reduceAdd, Int.reduceSub, Int.reduceMul, Int.reduceNeg, ↓vD, vU, ↓vMd, vMu, VE.ev, VE.evs, retvs, tupOf, grab, vfill, vbsl, eqCells, eqCell, veqs, veqs1, vmnx, AV.isCell, AV.isUndef, Nat.reduceEqDiff, Nat.reduceAdd, Nat.reduceSub, Nat.reduceLeDiff, Nat.reduceLT, reduceIte, reduceCtorEq, Nat.reduceBEq]) | (simp (disch := first | assumption | omega | exact Seg.len _ | exact Vec.len _ | exact Leg.len _ | exact num_len _ | exact rowA_len _ | exact rowA_len | exact rowT_len _ | exact rowT_len | exact Seg.len | exact Vec.len | exact Leg.len | exact num_len | exact AV.slen _ _ | rfl) only [vP]) | (with_reducible (first | refine gsnd (fun _ => ?_) (fun _ => ?_) | refine csnd (fun _ => ?_) (fun _ => ?_) | refine gsd (fun _ => ?_) (fun _ => ?_) | refine csd (fun _ => ?_) (fun _ => ?_) | refine gsn (fun _ => ?_) (fun _ => ?_) | refine csn (fun _ => ?_) (fun _ => ?_))) | (with_reducible refine gs (fun _ => ?_) (fun _ => ?_)) | (with_reducible refine cs_ (fun _ => ?_) (fun _ => ?_)) | (with_reducible refine objQ_i (fun _ _ => ?_); (repeat (with_reducible refine imp_i (fun _ => ?_)))) | ((try with_reducible refine appK_a ?_); first | (with_reducible refine appD_F (by refine ⟨?_, ?_, ?_, ?_⟩ <;> (first | assumption | omega | exact St.has_add (by assumption) | (simp only [ins_has]; exact St.has_add (by assumption)) | (simp only [ins_has, fresh_ins, kill_ins, add_ins] at *; exact St.has_add (by assumption)) | (simp only [*, ins_has, has_full, St.has_add]; done) | (simp [-List.map_take, -List.map_drop, or_imp, forall_and, Seg.a, Vec.a, Leg.a, num, okEl, cells_agg, cells_int, cells_sl, cells_bool, AV.isCell]; done) | (simp; omega))) (fun _ _ => ?_)) | (with_reducible refine appD_V (by refine ⟨?_, ?_, ?_, ?_, ?_⟩ <;> (first | assumption | omega | exact St.has_add (by assumption) | (simp only [ins_has]; exact St.has_add (by assumption)) | (simp only [ins_has, fresh_ins, kill_ins, add_ins] at *; exact St.has_add (by assumption)) | (simp only [*, ins_has, has_full, St.has_add]; done) | (simp [-List.map_take, -List.map_drop, or_imp, forall_and, Seg.a, Vec.a, Leg.a, num, okEl, cells_agg, cells_int, cells_sl, cells_bool, AV.isCell]; done) | (simp; omega))) (fun _ _ => ?_))) | (with_reducible refine freshQ_i (fun _ _ => ?_)) | (with_reducible refine nilQ_i (fun _ _ => ?_)) | (with_reducible first | refine callH_use (hg) ?_ | refine pureQ_use (hg) ?_) | (with_reducible first | refine callH_use (head_17) ?_ | refine pureQ_use (head_17) ?_)))
  have hgf : great17 load f w l = false := by simpa using hgr
  rw [hgf] at hg
  have hlim : load.length ≤ 60 ∧ f.length ≤ 60 ∧ l.length ≤ 20 := by
    unfold great17 preG at hgf
    simp only [Bool.or_eq_false_iff, decide_eq_false_iff_not] at hgf
    omega
  clear hgr hgf hl1 hl2 hl3
  obtain ⟨hl1, hl2, hl3⟩ := hlim
  by_cases hm60 : 60 < more.length
  · simp only [v_liverylaw17_CostSums, ↓vD, vU, ↓vMd, vMu, VE.ev, VE.evs, retvs, tupOf, grab, vfill, vbsl, eqCells, eqCell, veqs, veqs1, vmnx, AV.isCell, AV.isUndef, Nat.reduceEqDiff, Nat.reduceAdd, Nat.reduceSub, Nat.reduceLeDiff, Nat.reduceLT, reduceIte, reduceCtorEq, Nat.reduceBEq, k_app, k_slc1]
    (repeat' (first | (simp (config := { maxDischargeDepth := 16 }) only [*, vX, Int.reduceLE, Int.reduceLT, Int.reduceGE, Int.reduceGT, Int.reduceBEq, Int.reduceBNe, Int.reduceAdd, Int.reduceSub, Int.reduceMul, Int.reduceNeg, ↓vD, vU, ↓vMd, vMu, VE.ev, VE.evs, retvs, tupOf, grab, vfill, vbsl, eqCells, eqCell, veqs, veqs1, vmnx, AV.isCell, AV.isUndef, Nat.reduceEqDiff, Nat.reduceAdd, Nat.reduceSub, Nat.reduceLeDiff, Nat.reduceLT, reduceIte, reduceCtorEq, Nat.reduceBEq]) | (simp (disch := first | assumption | omega | exact Seg.len _ | exact Vec.len _ | exact Leg.len _ | exact num_len _ | exact rowA_len _ | exact rowA_len | exact rowT_len _ | exact rowT_len | exact Seg.len | exact Vec.len | exact Leg.len | exact num_len | exact AV.slen _ _ | rfl) only [vP]) | (with_reducible (first | refine gsnd (fun _ => ?_) (fun _ => ?_) | refine csnd (fun _ => ?_) (fun _ => ?_) | refine gsd (fun _ => ?_) (fun _ => ?_) | refine csd (fun _ => ?_) (fun _ => ?_) | refine gsn (fun _ => ?_) (fun _ => ?_) | refine csn (fun _ => ?_) (fun _ => ?_))) | (with_reducible refine gs (fun _ => ?_) (fun _ => ?_)) | (with_reducible refine cs_ (fun _ => ?_) (fun _ => ?_)) | (with_reducible refine objQ_i (fun _ _ => ?_); (repeat (with_reducible refine imp_i (fun _ => ?_)))) | ((try with_reducible refine appK_a ?_); first | (with_reducible refine appD_F (by refine ⟨?_, ?_, ?_, ?_⟩ <;> (first | assumption | omega | exact St.has_add (by assumption) | (simp only [ins_has]; exact St.has_add (by assumption)) | (simp only [ins_has, fresh_ins, kill_ins, add_ins] at *; exact St.has_add (by assumption)) | (simp only [*, ins_has, has_full, St.has_add]; done) | (simp [-List.map_take, -List.map_drop, or_imp, forall_and, Seg.a, Vec.a, Leg.a, num, okEl, cells_agg, cells_int, cells_sl, cells_bool, AV.isCell]; done) | (simp; omega))) (fun _ _ => ?_)) | (with_reducible refine appD_V (by refine ⟨?_, ?_, ?_, ?_, ?_⟩ <;> (first | assumption | omega | exact St.has_add (by assumption) | (simp only [ins_has]; exact St.has_add (by assumption)) | (simp only [ins_has, fresh_ins, kill_ins, add_ins] at *; exact St.has_add (by assumption)) | (simp only [*, ins_has, has_full, St.has_add]; done) | (simp [-List.map_take, -List.map_drop, or_imp, forall_and, Seg.a, Vec.a, Leg.a, num, okEl, cells_agg, cells_int, cells_sl, cells_bool, AV.isCell]; done) | (simp; omega))) (fun _ _ => ?_))) | (with_reducible refine freshQ_i (fun _ _ => ?_)) | (with_reducible refine nilQ_i (fun _ _ => ?_)) | (with_reducible first | refine callH_use (hg) ?_ | refine pureQ_use (hg) ?_) | (with_reducible first | refine callH_use (head_17) ?_ | refine pureQ_use (head_17) ?_)))
  have hC1 := Cost_v load (by omega) t l (by omega) .no .no
  have hC2 := Cost_v more (by omega) t l (by omega) .no .no
  have hA := Add_c [(load, Tok.no), (more, Tok.no)] (by simp) (by simp; omega) .full
  simp only [List.map_cons, List.map_nil, rowT] at hA
  obtain ⟨hal, hao⟩ := addC_two load more
  obtain ⟨D, hD⟩ : ∃ D, addC [load, more] = D := ⟨_, rfl⟩
  rw [hD] at hA hal hao
  have hC3 := Cost_v D.1 (by omega) t l (by omega) .no .no
  have hwt : IntKind.i64.wrap t = t := wrap_i64 _ (by omega) (by omega)
  by_cases he : (costE load t l).2 = 0 ∧ (costE more t l).2 = 0 ∧ D.2 = 0 ∧ (costE D.1 t l).2 = 0
  case neg =>
    obtain ⟨E1, hE1⟩ : ∃ E, costE load t l = E := ⟨_, rfl⟩
    obtain ⟨E2, hE2⟩ : ∃ E, costE more t l = E := ⟨_, rfl⟩
    obtain ⟨E3, hE3⟩ : ∃ E, costE D.1 t l = E := ⟨_, rfl⟩
    simp only [hE1, hE2, hE3] at hC1 hC2 hC3 he
    obtain ⟨a, e1⟩ := E1
    obtain ⟨b, e2⟩ := E2
    obtain ⟨c, e3⟩ := E3
    obtain ⟨D1, D2⟩ := D
    simp only [num] at hC1 hC2 hC3 hA he
    have HE := Hid.mk he
    clear hE1 hE2 hE3 hD hal hao he
    simp only [v_liverylaw17_CostSums, ↓vD, vU, ↓vMd, vMu, VE.ev, VE.evs, retvs, tupOf, grab, vfill, vbsl, eqCells, eqCell, veqs, veqs1, vmnx, AV.isCell, AV.isUndef, Nat.reduceEqDiff, Nat.reduceAdd, Nat.reduceSub, Nat.reduceLeDiff, Nat.reduceLT, reduceIte, reduceCtorEq, Nat.reduceBEq, k_app, k_slc1]
    by_cases k1 : e1 = 0
    · by_cases k2 : e2 = 0
      · by_cases k3 : D2 = 0
        · have k4 : ¬ e3 = 0 := fun h => HE.out ⟨k1, k2, k3, h⟩
          subst k1 k2 k3
          (repeat' (first | (simp (config := { maxDischargeDepth := 16 }) only [*, vX, Int.reduceLE, Int.reduceLT, Int.reduceGE, Int.reduceGT, Int.reduceBEq, Int.reduceBNe, Int.reduceAdd, Int.reduceSub, Int.reduceMul, Int.reduceNeg, ↓vD, vU, ↓vMd, vMu, VE.ev, VE.evs, retvs, tupOf, grab, vfill, vbsl, eqCells, eqCell, veqs, veqs1, vmnx, AV.isCell, AV.isUndef, Nat.reduceEqDiff, Nat.reduceAdd, Nat.reduceSub, Nat.reduceLeDiff, Nat.reduceLT, reduceIte, reduceCtorEq, Nat.reduceBEq]) | (simp (disch := first | assumption | omega | exact Seg.len _ | exact Vec.len _ | exact Leg.len _ | exact num_len _ | exact rowA_len _ | exact rowA_len | exact rowT_len _ | exact rowT_len | exact Seg.len | exact Vec.len | exact Leg.len | exact num_len | exact AV.slen _ _ | rfl) only [vP]) | (with_reducible (first | refine gsnd (fun _ => ?_) (fun _ => ?_) | refine csnd (fun _ => ?_) (fun _ => ?_) | refine gsd (fun _ => ?_) (fun _ => ?_) | refine csd (fun _ => ?_) (fun _ => ?_) | refine gsn (fun _ => ?_) (fun _ => ?_) | refine csn (fun _ => ?_) (fun _ => ?_))) | (with_reducible refine gs (fun _ => ?_) (fun _ => ?_)) | (with_reducible refine cs_ (fun _ => ?_) (fun _ => ?_)) | (with_reducible refine objQ_i (fun _ _ => ?_); (repeat (with_reducible refine imp_i (fun _ => ?_)))) | ((try with_reducible refine appK_a ?_); first | (with_reducible refine appD_F (by refine ⟨?_, ?_, ?_, ?_⟩ <;> (first | assumption | omega | exact St.has_add (by assumption) | (simp only [ins_has]; exact St.has_add (by assumption)) | (simp only [ins_has, fresh_ins, kill_ins, add_ins] at *; exact St.has_add (by assumption)) | (simp only [*, ins_has, has_full, St.has_add]; done) | (simp [-List.map_take, -List.map_drop, or_imp, forall_and, Seg.a, Vec.a, Leg.a, num, okEl, cells_agg, cells_int, cells_sl, cells_bool, AV.isCell]; done) | (simp; omega))) (fun _ _ => ?_)) | (with_reducible refine appD_V (by refine ⟨?_, ?_, ?_, ?_, ?_⟩ <;> (first | assumption | omega | exact St.has_add (by assumption) | (simp only [ins_has]; exact St.has_add (by assumption)) | (simp only [ins_has, fresh_ins, kill_ins, add_ins] at *; exact St.has_add (by assumption)) | (simp only [*, ins_has, has_full, St.has_add]; done) | (simp [-List.map_take, -List.map_drop, or_imp, forall_and, Seg.a, Vec.a, Leg.a, num, okEl, cells_agg, cells_int, cells_sl, cells_bool, AV.isCell]; done) | (simp; omega))) (fun _ _ => ?_))) | (with_reducible refine freshQ_i (fun _ _ => ?_)) | (with_reducible refine nilQ_i (fun _ _ => ?_)) | (with_reducible first | refine callH_use (hg) ?_ | refine pureQ_use (hg) ?_) | (with_reducible first | refine callH_use (head_17) ?_ | refine pureQ_use (head_17) ?_) | (with_reducible first | refine callH_use (hC1) ?_ | refine pureQ_use (hC1) ?_) | (with_reducible first | refine callH_use (hC2) ?_ | refine pureQ_use (hC2) ?_) | (with_reducible first | refine callH_use (hA) ?_ | refine pureQ_use (hA) ?_) | (with_reducible first | refine callH_use (hC3) ?_ | refine pureQ_use (hC3) ?_)))
        · subst k1 k2
          (repeat' (first | (simp (config := { maxDischargeDepth := 16 }) only [*, vX, Int.reduceLE, Int.reduceLT, Int.reduceGE, Int.reduceGT, Int.reduceBEq, Int.reduceBNe, Int.reduceAdd, Int.reduceSub, Int.reduceMul, Int.reduceNeg, ↓vD, vU, ↓vMd, vMu, VE.ev, VE.evs, retvs, tupOf, grab, vfill, vbsl, eqCells, eqCell, veqs, veqs1, vmnx, AV.isCell, AV.isUndef, Nat.reduceEqDiff, Nat.reduceAdd, Nat.reduceSub, Nat.reduceLeDiff, Nat.reduceLT, reduceIte, reduceCtorEq, Nat.reduceBEq]) | (simp (disch := first | assumption | omega | exact Seg.len _ | exact Vec.len _ | exact Leg.len _ | exact num_len _ | exact rowA_len _ | exact rowA_len | exact rowT_len _ | exact rowT_len | exact Seg.len | exact Vec.len | exact Leg.len | exact num_len | exact AV.slen _ _ | rfl) only [vP]) | (with_reducible (first | refine gsnd (fun _ => ?_) (fun _ => ?_) | refine csnd (fun _ => ?_) (fun _ => ?_) | refine gsd (fun _ => ?_) (fun _ => ?_) | refine csd (fun _ => ?_) (fun _ => ?_) | refine gsn (fun _ => ?_) (fun _ => ?_) | refine csn (fun _ => ?_) (fun _ => ?_))) | (with_reducible refine gs (fun _ => ?_) (fun _ => ?_)) | (with_reducible refine cs_ (fun _ => ?_) (fun _ => ?_)) | (with_reducible refine objQ_i (fun _ _ => ?_); (repeat (with_reducible refine imp_i (fun _ => ?_)))) | ((try with_reducible refine appK_a ?_); first | (with_reducible refine appD_F (by refine ⟨?_, ?_, ?_, ?_⟩ <;> (first | assumption | omega | exact St.has_add (by assumption) | (simp only [ins_has]; exact St.has_add (by assumption)) | (simp only [ins_has, fresh_ins, kill_ins, add_ins] at *; exact St.has_add (by assumption)) | (simp only [*, ins_has, has_full, St.has_add]; done) | (simp [-List.map_take, -List.map_drop, or_imp, forall_and, Seg.a, Vec.a, Leg.a, num, okEl, cells_agg, cells_int, cells_sl, cells_bool, AV.isCell]; done) | (simp; omega))) (fun _ _ => ?_)) | (with_reducible refine appD_V (by refine ⟨?_, ?_, ?_, ?_, ?_⟩ <;> (first | assumption | omega | exact St.has_add (by assumption) | (simp only [ins_has]; exact St.has_add (by assumption)) | (simp only [ins_has, fresh_ins, kill_ins, add_ins] at *; exact St.has_add (by assumption)) | (simp only [*, ins_has, has_full, St.has_add]; done) | (simp [-List.map_take, -List.map_drop, or_imp, forall_and, Seg.a, Vec.a, Leg.a, num, okEl, cells_agg, cells_int, cells_sl, cells_bool, AV.isCell]; done) | (simp; omega))) (fun _ _ => ?_))) | (with_reducible refine freshQ_i (fun _ _ => ?_)) | (with_reducible refine nilQ_i (fun _ _ => ?_)) | (with_reducible first | refine callH_use (hg) ?_ | refine pureQ_use (hg) ?_) | (with_reducible first | refine callH_use (head_17) ?_ | refine pureQ_use (head_17) ?_) | (with_reducible first | refine callH_use (hC1) ?_ | refine pureQ_use (hC1) ?_) | (with_reducible first | refine callH_use (hC2) ?_ | refine pureQ_use (hC2) ?_) | (with_reducible first | refine callH_use (hA) ?_ | refine pureQ_use (hA) ?_) | (with_reducible first | refine callH_use (hC3) ?_ | refine pureQ_use (hC3) ?_)))
      · subst k1
        (repeat' (first | (simp (config := { maxDischargeDepth := 16 }) only [*, vX, Int.reduceLE, Int.reduceLT, Int.reduceGE, Int.reduceGT, Int.reduceBEq, Int.reduceBNe, Int.reduceAdd, Int.reduceSub, Int.reduceMul, Int.reduceNeg, ↓vD, vU, ↓vMd, vMu, VE.ev, VE.evs, retvs, tupOf, grab, vfill, vbsl, eqCells, eqCell, veqs, veqs1, vmnx, AV.isCell, AV.isUndef, Nat.reduceEqDiff, Nat.reduceAdd, Nat.reduceSub, Nat.reduceLeDiff, Nat.reduceLT, reduceIte, reduceCtorEq, Nat.reduceBEq]) | (simp (disch := first | assumption | omega | exact Seg.len _ | exact Vec.len _ | exact Leg.len _ | exact num_len _ | exact rowA_len _ | exact rowA_len | exact rowT_len _ | exact rowT_len | exact Seg.len | exact Vec.len | exact Leg.len | exact num_len | exact AV.slen _ _ | rfl) only [vP]) | (with_reducible (first | refine gsnd (fun _ => ?_) (fun _ => ?_) | refine csnd (fun _ => ?_) (fun _ => ?_) | refine gsd (fun _ => ?_) (fun _ => ?_) | refine csd (fun _ => ?_) (fun _ => ?_) | refine gsn (fun _ => ?_) (fun _ => ?_) | refine csn (fun _ => ?_) (fun _ => ?_))) | (with_reducible refine gs (fun _ => ?_) (fun _ => ?_)) | (with_reducible refine cs_ (fun _ => ?_) (fun _ => ?_)) | (with_reducible refine objQ_i (fun _ _ => ?_); (repeat (with_reducible refine imp_i (fun _ => ?_)))) | ((try with_reducible refine appK_a ?_); first | (with_reducible refine appD_F (by refine ⟨?_, ?_, ?_, ?_⟩ <;> (first | assumption | omega | exact St.has_add (by assumption) | (simp only [ins_has]; exact St.has_add (by assumption)) | (simp only [ins_has, fresh_ins, kill_ins, add_ins] at *; exact St.has_add (by assumption)) | (simp only [*, ins_has, has_full, St.has_add]; done) | (simp [-List.map_take, -List.map_drop, or_imp, forall_and, Seg.a, Vec.a, Leg.a, num, okEl, cells_agg, cells_int, cells_sl, cells_bool, AV.isCell]; done) | (simp; omega))) (fun _ _ => ?_)) | (with_reducible refine appD_V (by refine ⟨?_, ?_, ?_, ?_, ?_⟩ <;> (first | assumption | omega | exact St.has_add (by assumption) | (simp only [ins_has]; exact St.has_add (by assumption)) | (simp only [ins_has, fresh_ins, kill_ins, add_ins] at *; exact St.has_add (by assumption)) | (simp only [*, ins_has, has_full, St.has_add]; done) | (simp [-List.map_take, -List.map_drop, or_imp, forall_and, Seg.a, Vec.a, Leg.a, num, okEl, cells_agg, cells_int, cells_sl, cells_bool, AV.isCell]; done) | (simp; omega))) (fun _ _ => ?_))) | (with_reducible refine freshQ_i (fun _ _ => ?_)) | (with_reducible refine nilQ_i (fun _ _ => ?_)) | (with_reducible first | refine callH_use (hg) ?_ | refine pureQ_use (hg) ?_) | (with_reducible first | refine callH_use (head_17) ?_ | refine pureQ_use (head_17) ?_) | (with_reducible first | refine callH_use (hC1) ?_ | refine pureQ_use (hC1) ?_) | (with_reducible first | refine callH_use (hC2) ?_ | refine pureQ_use (hC2) ?_) | (with_reducible first | refine callH_use (hA) ?_ | refine pureQ_use (hA) ?_) | (with_reducible first | refine callH_use (hC3) ?_ | refine pureQ_use (hC3) ?_)))
    · (repeat' (first | (simp (config := { maxDischargeDepth := 16 }) only [*, vX, Int.reduceLE, Int.reduceLT, Int.reduceGE, Int.reduceGT, Int.reduceBEq, Int.reduceBNe, Int.reduceAdd, Int.reduceSub, Int.reduceMul, Int.reduceNeg, ↓vD, vU, ↓vMd, vMu, VE.ev, VE.evs, retvs, tupOf, grab, vfill, vbsl, eqCells, eqCell, veqs, veqs1, vmnx, AV.isCell, AV.isUndef, Nat.reduceEqDiff, Nat.reduceAdd, Nat.reduceSub, Nat.reduceLeDiff, Nat.reduceLT, reduceIte, reduceCtorEq, Nat.reduceBEq]) | (simp (disch := first | assumption | omega | exact Seg.len _ | exact Vec.len _ | exact Leg.len _ | exact num_len _ | exact rowA_len _ | exact rowA_len | exact rowT_len _ | exact rowT_len | exact Seg.len | exact Vec.len | exact Leg.len | exact num_len | exact AV.slen _ _ | rfl) only [vP]) | (with_reducible (first | refine gsnd (fun _ => ?_) (fun _ => ?_) | refine csnd (fun _ => ?_) (fun _ => ?_) | refine gsd (fun _ => ?_) (fun _ => ?_) | refine csd (fun _ => ?_) (fun _ => ?_) | refine gsn (fun _ => ?_) (fun _ => ?_) | refine csn (fun _ => ?_) (fun _ => ?_))) | (with_reducible refine gs (fun _ => ?_) (fun _ => ?_)) | (with_reducible refine cs_ (fun _ => ?_) (fun _ => ?_)) | (with_reducible refine objQ_i (fun _ _ => ?_); (repeat (with_reducible refine imp_i (fun _ => ?_)))) | ((try with_reducible refine appK_a ?_); first | (with_reducible refine appD_F (by refine ⟨?_, ?_, ?_, ?_⟩ <;> (first | assumption | omega | exact St.has_add (by assumption) | (simp only [ins_has]; exact St.has_add (by assumption)) | (simp only [ins_has, fresh_ins, kill_ins, add_ins] at *; exact St.has_add (by assumption)) | (simp only [*, ins_has, has_full, St.has_add]; done) | (simp [-List.map_take, -List.map_drop, or_imp, forall_and, Seg.a, Vec.a, Leg.a, num, okEl, cells_agg, cells_int, cells_sl, cells_bool, AV.isCell]; done) | (simp; omega))) (fun _ _ => ?_)) | (with_reducible refine appD_V (by refine ⟨?_, ?_, ?_, ?_, ?_⟩ <;> (first | assumption | omega | exact St.has_add (by assumption) | (simp only [ins_has]; exact St.has_add (by assumption)) | (simp only [ins_has, fresh_ins, kill_ins, add_ins] at *; exact St.has_add (by assumption)) | (simp only [*, ins_has, has_full, St.has_add]; done) | (simp [-List.map_take, -List.map_drop, or_imp, forall_and, Seg.a, Vec.a, Leg.a, num, okEl, cells_agg, cells_int, cells_sl, cells_bool, AV.isCell]; done) | (simp; omega))) (fun _ _ => ?_))) | (with_reducible refine freshQ_i (fun _ _ => ?_)) | (with_reducible refine nilQ_i (fun _ _ => ?_)) | (with_reducible first | refine callH_use (hg) ?_ | refine pureQ_use (hg) ?_) | (with_reducible first | refine callH_use (head_17) ?_ | refine pureQ_use (head_17) ?_) | (with_reducible first | refine callH_use (hC1) ?_ | refine pureQ_use (hC1) ?_) | (with_reducible first | refine callH_use (hC2) ?_ | refine pureQ_use (hC2) ?_) | (with_reducible first | refine callH_use (hA) ?_ | refine pureQ_use (hA) ?_) | (with_reducible first | refine callH_use (hC3) ?_ | refine pureQ_use (hC3) ?_)))
  obtain ⟨e1, e2, e3, e4⟩ := he
  obtain ⟨m1, n1, f1, u1, q1⟩ := costE_ok e1
  obtain ⟨m2, _, _, u2, q2⟩ := costE_ok e2
  obtain ⟨_, _, _, _, q3⟩ := costE_ok e4
  obtain ⟨_, _, o3, o4⟩ := hao e3
  obtain ⟨_, hsum⟩ := add_ok m1 m2 o3
  rw [← o4] at hsum
  obtain ⟨d1, d2, d3⟩ := length_ok n1
  have db := sumD_bd d1
  have sb1 := costP_bd (much_small u1) db.1 (by omega) t
  have sb2 := costP_bd (much_small u2) db.1 (by omega) t
  have hboth := costP_both hsum (sumD l) t
  rw [d3] at q1 q2 q3
  rw [q1] at hC1
  rw [q2] at hC2
  rw [q3, hboth] at hC3
  rw [e3] at hA
  have HP := Hid.mk fun from_ l' => Cost_v load (by omega : load.length ≤ 1000000) from_ l'
  have HB := Hid.mk fun (k : Nat) => costP_bd (much_small u1) (n := sumD (l.take k))
  have HM := Hid.mk (And.intro m1 (And.intro u1 (And.intro d1 n1)))
  have hpl := costE_is (load := load) (t := t) (l := plainL l) m1 (by rw [length_plain n1]; exact n1) f1 u1
  rw [length_plain n1, d3] at hpl
  have HPL := Hid.mk hpl
  clear hpl m1 u1 d1 n1 f1 m2 u2 o3 o4 hsum d3 q1 q2 q3 e1 e2 e3 e4 hboth hal hao hD
  obtain ⟨a, ha⟩ : ∃ a, costP load (sumD l) t = a := ⟨_, rfl⟩
  obtain ⟨b, hb⟩ : ∃ a, costP more (sumD l) t = a := ⟨_, rfl⟩
  rw [ha] at hC1 hC3 HPL sb1
  rw [hb] at hC2 hC3 sb2
  have HA := Hid.mk ha
  clear ha hb
  simp only [num] at hA
  simp only [v_liverylaw17_CostSums, ↓vD, vU, ↓vMd, vMu, VE.ev, VE.evs, retvs, tupOf, grab, vfill, vbsl, eqCells, eqCell, veqs, veqs1, vmnx, AV.isCell, AV.isUndef, Nat.reduceEqDiff, Nat.reduceAdd, Nat.reduceSub, Nat.reduceLeDiff, Nat.reduceLT, reduceIte, reduceCtorEq, Nat.reduceBEq, k_app, k_slc1]
  (repeat' (first | (simp (config := { maxDischargeDepth := 16 }) only [*, vX, Int.reduceLE, Int.reduceLT, Int.reduceGE, Int.reduceGT, Int.reduceBEq, Int.reduceBNe, Int.reduceAdd, Int.reduceSub, Int.reduceMul, Int.reduceNeg, ↓vD, vU, ↓vMd, vMu, VE.ev, VE.evs, retvs, tupOf, grab, vfill, vbsl, eqCells, eqCell, veqs, veqs1, vmnx, AV.isCell, AV.isUndef, Nat.reduceEqDiff, Nat.reduceAdd, Nat.reduceSub, Nat.reduceLeDiff, Nat.reduceLT, reduceIte, reduceCtorEq, Nat.reduceBEq]) | (simp (disch := first | assumption | omega | exact Seg.len _ | exact Vec.len _ | exact Leg.len _ | exact num_len _ | exact rowA_len _ | exact rowA_len | exact rowT_len _ | exact rowT_len | exact Seg.len | exact Vec.len | exact Leg.len | exact num_len | exact AV.slen _ _ | rfl) only [vP]) | (with_reducible (first | refine gsnd (fun _ => ?_) (fun _ => ?_) | refine csnd (fun _ => ?_) (fun _ => ?_) | refine gsd (fun _ => ?_) (fun _ => ?_) | refine csd (fun _ => ?_) (fun _ => ?_) | refine gsn (fun _ => ?_) (fun _ => ?_) | refine csn (fun _ => ?_) (fun _ => ?_))) | (with_reducible refine gs (fun _ => ?_) (fun _ => ?_)) | (with_reducible refine cs_ (fun _ => ?_) (fun _ => ?_)) | (with_reducible refine objQ_i (fun _ _ => ?_); (repeat (with_reducible refine imp_i (fun _ => ?_)))) | (with_reducible refine freshQ_i (fun _ _ => ?_)) | (with_reducible refine nilQ_i (fun _ _ => ?_)) | (with_reducible first | refine callH_use (hg) ?_ | refine pureQ_use (hg) ?_) | (with_reducible first | refine callH_use (head_17) ?_ | refine pureQ_use (head_17) ?_) | (with_reducible first | refine callH_use (hC1) ?_ | refine pureQ_use (hC1) ?_) | (with_reducible first | refine callH_use (hC2) ?_ | refine pureQ_use (hC2) ?_) | (with_reducible first | refine callH_use (hA) ?_ | refine pureQ_use (hA) ?_) | (with_reducible first | refine callH_use (hC3) ?_ | refine pureQ_use (hC3) ?_)))
  rename_i b3 h3
  have hl0 : l.map Leg.a ≠ [] := by intro e; have := congrArg List.length e; simp at this; subst this; simp at d2
  refine appK_new hl0 (by simp) (fun y hy => by obtain ⟨z, _, rfl⟩ := List.mem_map.1 hy; rfl) (by simp; omega) (by simp; omega) ?_
  intro b7 c7 rest hb7 hc7 hr7
  simp only [ins_objs, ite_some_none, List.length_nil, List.length_map, Nat.zero_add, List.nil_append] at hb7 hc7 hr7 ⊢
  obtain ⟨n73, n37, hb7⟩ := hb7
  obtain ⟨S, hS⟩ : ∃ S, st.ins b3 (.cells [.sl (load.map Seg.a) .no, .sl (f.map Seg.a) .no, .int .i64 w.m, .int .i64 w.c, .sl (l.map Leg.a) .no, .int .i64 many]) = S := ⟨_, rfl⟩
  have hS7 : S.objs b7 = none := by rw [← hS]; simp only [St.ins, n73, if_false, hb7]
  have hS3 : S.objs b3 = some (.cells [.sl (load.map Seg.a) .no, .sl (f.map Seg.a) .no, .int .i64 w.m, .int .i64 w.c, .sl (l.map Leg.a) .no, .int .i64 many]) := by rw [← hS]; simp only [St.ins, if_true]
  have HS := Hid.mk hS
  rw [hS]
  clear hS
  have e0 : S.ins b7 (.cells ((l.map Leg.a).flatMap AV.cells ++ rest)) = ob S b7 Leg.a rest (midL l 0) := by unfold midL ob; simp [plainL, fl]
  rw [e0]
  clear e0 hl0
  (repeat' (first | (simp (config := { maxDischargeDepth := 16 }) only [*, vX, Int.reduceLE, Int.reduceLT, Int.reduceGE, Int.reduceGT, Int.reduceBEq, Int.reduceBNe, Int.reduceAdd, Int.reduceSub, Int.reduceMul, Int.reduceNeg, ↓vD, vU, ↓vMd, vMu, VE.ev, VE.evs, retvs, tupOf, grab, vfill, vbsl, eqCells, eqCell, veqs, veqs1, vmnx, AV.isCell, AV.isUndef, Nat.reduceEqDiff, Nat.reduceAdd, Nat.reduceSub, Nat.reduceLeDiff, Nat.reduceLT, reduceIte, reduceCtorEq, Nat.reduceBEq]) | (simp (disch := first | assumption | omega | exact Seg.len _ | exact Vec.len _ | exact Leg.len _ | exact num_len _ | exact rowA_len _ | exact rowA_len | exact rowT_len _ | exact rowT_len | exact Seg.len | exact Vec.len | exact Leg.len | exact num_len | exact AV.slen _ _ | rfl) only [vP]) | (with_reducible (first | refine gsnd (fun _ => ?_) (fun _ => ?_) | refine csnd (fun _ => ?_) (fun _ => ?_) | refine gsd (fun _ => ?_) (fun _ => ?_) | refine csd (fun _ => ?_) (fun _ => ?_) | refine gsn (fun _ => ?_) (fun _ => ?_) | refine csn (fun _ => ?_) (fun _ => ?_))) | (with_reducible refine gs (fun _ => ?_) (fun _ => ?_)) | (with_reducible refine cs_ (fun _ => ?_) (fun _ => ?_)) | (with_reducible refine objQ_i (fun _ _ => ?_); (repeat (with_reducible refine imp_i (fun _ => ?_)))) | ((try with_reducible refine appK_a ?_); first | (with_reducible refine appD_F (by refine ⟨?_, ?_, ?_, ?_⟩ <;> (first | assumption | omega | exact St.has_add (by assumption) | (simp only [ins_has]; exact St.has_add (by assumption)) | (simp only [ins_has, fresh_ins, kill_ins, add_ins] at *; exact St.has_add (by assumption)) | (simp only [*, ins_has, has_full, St.has_add]; done) | (simp [-List.map_take, -List.map_drop, or_imp, forall_and, Seg.a, Vec.a, Leg.a, num, okEl, cells_agg, cells_int, cells_sl, cells_bool, AV.isCell]; done) | (simp; omega))) (fun _ _ => ?_)) | (with_reducible refine appD_V (by refine ⟨?_, ?_, ?_, ?_, ?_⟩ <;> (first | assumption | omega | exact St.has_add (by assumption) | (simp only [ins_has]; exact St.has_add (by assumption)) | (simp only [ins_has, fresh_ins, kill_ins, add_ins] at *; exact St.has_add (by assumption)) | (simp only [*, ins_has, has_full, St.has_add]; done) | (simp [-List.map_take, -List.map_drop, or_imp, forall_and, Seg.a, Vec.a, Leg.a, num, okEl, cells_agg, cells_int, cells_sl, cells_bool, AV.isCell]; done) | (simp; omega))) (fun _ _ => ?_))) | (with_reducible refine freshQ_i (fun _ _ => ?_)) | (with_reducible refine nilQ_i (fun _ _ => ?_))))
  refine loopf_of (len := l.length) (by simp only [asgL, dsts, List.cons_append, List.nil_append, List.append_nil]; rfl) (by simp only [noR, Bool.and_true, Bool.and_false]; rfl) (by omega) (fun i fr s => s = ob S b7 Leg.a rest (midL l i) ∧ fr.t 19 = .int .i64 i ∧ fr.t 16 = .int .i64 (costP load (sumD (l.take i)) t) ∧ fr.t 17 = .int .i64 (t + sumD (l.take i))) ?_ ?_ ?_
  · simp [↓vD, vU, ↓vMd, vMu, VE.ev, VE.evs, retvs, tupOf, grab, vfill, vbsl, eqCells, eqCell, veqs, veqs1, vmnx, AV.isCell, AV.isUndef, Nat.reduceEqDiff, Nat.reduceAdd, Nat.reduceSub, Nat.reduceLeDiff, Nat.reduceLT, reduceIte, reduceCtorEq, Nat.reduceBEq, k_app, k_slc1, sumD, costP_zero]
  · rintro i fr s hi hwi hfr hd ⟨rfl, h19, h16, h17⟩
    obtain ⟨x, hx⟩ : ∃ x, l[i] = x := ⟨_, rfl⟩
    obtain ⟨m1, u1, d1, n1⟩ := HM.out
    have hxd := d1 x (by rw [← hx]; exact List.getElem_mem _)
    have hst := sumD_take hi
    rw [hx] at hst
    have hb1 := sumD_bd (l := l.take i) (fun y hy => d1 y (List.mem_of_mem_take hy))
    have hb2 := sumD_bd (l := l.take (i + 1)) (fun y hy => d1 y (List.mem_of_mem_take hy))
    rw [List.length_take] at hb1 hb2
    have hc1 := HB.out i hb1.1 (by omega) t
    have hc2 := HB.out (i + 1) hb2.1 (by omega) t
    have hadd := costP_add load (a := sumD (l.take i)) (b := x.d) hb1.1 (by omega) t
    rw [← hst] at hadd
    have hfar : farF (t + sumD (l.take i)) = false := by
      simp only [farF, Bool.or_eq_false_iff, decide_eq_false_iff_not]; omega
    have hlen1 : lengthF [x] = (x.d, 0) := by
      have := length_of (l := [x]) (by simp; omega) (by simp)
      rw [this]; simp [sumD]
    have hce := costE_is (load := load) (t := t + sumD (l.take i)) (l := [x]) m1 (by rw [hlen1]) hfar u1
    rw [hlen1] at hce
    have hC := HP.out (t + sumD (l.take i)) [x] (by simp) .no .no
    rw [hce] at hC
    simp only [List.map_cons, List.map_nil] at hC
    have hcut : vslx 3 (.sl (l.map Leg.a) .no) (some (.int .i64 (i : Int))) (some (.int .i64 ((i : Int) + 1))) none = some (.sl [Leg.a x] .no) := by
      have h := e_slcLH Leg.a l .no .i64 .i64 (i : Int) ((i : Int) + 1) (by omega) (by omega) (by omega)
      have e : (l.drop (i : Int).toNat).take ((i : Int) + 1 - i).toNat = [x] := by
        rw [show (i : Int).toNat = i by omega, show ((i : Int) + 1 - i).toNat = 1 by omega, List.drop_eq_getElem_cons hi, hx]; rfl
      rw [e] at h
      exact h
    have hnext := midL_next hi rest
    have hob := ob_objs S b7 Leg.a rest (midL l i)
    have hcl : i * 3 + 1 + 2 ≤ (fl Leg.a (midL l i) ++ rest).length := by
      rw [List.length_append, fl_len Leg.a 3 Leg.ok, midL_len]
      have : (i + 1) * 3 ≤ l.length * 3 := Nat.mul_le_mul_right _ hi
      omega
    obtain ⟨C, hC0⟩ : ∃ C, fl Leg.a (midL l i) ++ rest = C := ⟨_, rfl⟩
    rw [hC0] at hnext hob hcl
    obtain ⟨S1, hS1⟩ : ∃ S1, ob S b7 Leg.a rest (midL l i) = S1 := ⟨_, rfl⟩
    rw [hS1] at hob ⊢
    have hS13 : S1.objs b3 = some (.cells [.sl (load.map Seg.a) .no, .sl (f.map Seg.a) .no, .int .i64 w.m, .int .i64 w.c, .sl (l.map Leg.a) .no, .int .i64 many]) := by rw [← hS1]; simp only [ob, St.ins, n37, if_false, hS3]
    have hv0 : vload S1 (.ptr b3 0) 1 false = some (.sl (load.map Seg.a) .no) := by simp [vload, hS13, grab]
    have hv4 : vload S1 (.ptr b3 4) 1 false = some (.sl (l.map Leg.a) .no) := by simp [vload, hS13, grab]
    have hiad := ob_iad b7 l.length c7 .i64 i 3 hi
    obtain ⟨p, hp⟩ : ∃ p, costP load (sumD (l.take i)) t = p := ⟨_, rfl⟩
    obtain ⟨p', hp'⟩ : ∃ p, costP load (sumD (l.take (i + 1))) t = p := ⟨_, rfl⟩
    obtain ⟨u, hu⟩ : ∃ p, t + sumD (l.take i) = p := ⟨_, rfl⟩
    obtain ⟨q, hq⟩ : ∃ p, costP load x.d u = p := ⟨_, rfl⟩
    have hu' : t + sumD (l.take (i + 1)) = u + x.d := by omega
    rw [hu'] 
    simp only [hp, hp', hq, hu] at hc1 hc2 hadd hC h16 h17 ⊢
    have hw1 : IntKind.i64.wrap (p + q) = p + q := wrap_i64 _ (by omega) (by omega)
    have hw2 : IntKind.i64.wrap (u + x.d) = u + x.d := wrap_i64 _ (by omega) (by omega)
    have HN := Hid.mk hnext
    have H1 := Hid.mk hS1
    have HD := Hid.mk hadd
    clear hp hp' hq hu hu' hS1 hC0 hnext hadd hce hlen1 hfar hc1 hc2 hb1 hb2 hst m1 u1 d1 n1 hS7 hS3 hC1 hC2 hC3 hA sb1 sb2 hg
    simp only [Leg.a] at hC
    (repeat' (first | (simp (config := { maxDischargeDepth := 16 }) only [*, Leg.a, vX, Int.reduceLE, Int.reduceLT, Int.reduceGE, Int.reduceGT, Int.reduceBEq, Int.reduceBNe, Int.reduceAdd, Int.reduceSub, Int.reduceMul, Int.reduceNeg, ↓vD, vU, ↓vMd, vMu, VE.ev, VE.evs, retvs, tupOf, grab, vfill, vbsl, eqCells, eqCell, veqs, veqs1, vmnx, AV.isCell, AV.isUndef, Nat.reduceEqDiff, Nat.reduceAdd, Nat.reduceSub, Nat.reduceLeDiff, Nat.reduceLT, reduceIte, reduceCtorEq, Nat.reduceBEq]) | (simp (disch := first | assumption | omega | exact Seg.len _ | exact Vec.len _ | exact Leg.len _ | exact num_len _ | exact rowA_len _ | exact rowA_len | exact rowT_len _ | exact rowT_len | exact Seg.len | exact Vec.len | exact Leg.len | exact num_len | exact AV.slen _ _ | rfl) only [Leg.a, vP]) | (with_reducible (first | refine gsnd (fun _ => ?_) (fun _ => ?_) | refine csnd (fun _ => ?_) (fun _ => ?_) | refine gsd (fun _ => ?_) (fun _ => ?_) | refine csd (fun _ => ?_) (fun _ => ?_) | refine gsn (fun _ => ?_) (fun _ => ?_) | refine csn (fun _ => ?_) (fun _ => ?_))) | (with_reducible refine gs (fun _ => ?_) (fun _ => ?_)) | (with_reducible refine cs_ (fun _ => ?_) (fun _ => ?_)) | (with_reducible refine objQ_i (fun _ _ => ?_); (repeat (with_reducible refine imp_i (fun _ => ?_)))) | (with_reducible refine freshQ_i (fun _ _ => ?_)) | (with_reducible refine nilQ_i (fun _ _ => ?_)) | (with_reducible first | refine callH_use (hC) ?_ | refine pureQ_use (hC) ?_)))
    refine ⟨?_, HD.out.symm⟩
    rw [HN.out, show ob S b7 Leg.a rest (midL l (i + 1)) = S1.ins b7 (.cells (fl Leg.a (midL l (i + 1)) ++ rest)) by rw [← H1.out, ob_ins]; rfl]
    exact St.le.refl _
  · rintro fr s hfr hd ⟨rfl, h19, h16, h17⟩
    rw [List.take_length, HA.out] at h16
    rw [List.take_length] at h17
    have hmid : midL l l.length = plainL l := by unfold midL; rw [List.take_length, List.drop_length, List.append_nil]
    rw [hmid]
    have hpl : (plainL l).length = l.length := plain_len l
    have hC := HP.out t (plainL l) (by omega) .no .no
    rw [HPL.out] at hC
    have hS13 : (ob S b7 Leg.a rest (plainL l)).objs b3 = some (.cells [.sl (load.map Seg.a) .no, .sl (f.map Seg.a) .no, .int .i64 w.m, .int .i64 w.c, .sl (l.map Leg.a) .no, .int .i64 many]) := by simp only [ob, St.ins, n37, if_false, hS3]
    obtain ⟨S1, hS1⟩ : ∃ S1, ob S b7 Leg.a rest (plainL l) = S1 := ⟨_, rfl⟩
    rw [hS1] at hS13 ⊢
    have hv0 : vload S1 (.ptr b3 0) 1 false = some (.sl (load.map Seg.a) .no) := by simp [vload, hS13, grab]
    have hv4 : vload S1 (.ptr b3 4) 1 false = some (.sl (l.map Leg.a) .no) := by simp [vload, hS13, grab]
    have hS17 : S1.objs b7 = some (.cells (((plainL l).map Leg.a).flatMap AV.cells ++ rest)) := by rw [← hS1]; exact ob_objs ..
    have hfr := Wk.freezeB S1 (sz := 3) (b := b7) (n := l.length) (c := c7) (by omega) hS17 (by rw [List.length_map, hpl]) (by intro x hx; obtain ⟨y, _, rfl⟩ := List.mem_map.1 hx; rfl) [.sl (load.map Seg.a) .no, .int .i64 t] []
    have hle : Hid (st.le (S1.del b7)) := ⟨by
      rw [← hS1, ← HS.out]; refine ⟨fun i o h => ?_, fun x h => by simpa [St.ins, St.del, ob] using h⟩
      have e1 : i ≠ b7 := fun e => by subst e; rw [hb7] at h; cases h
      have e2 : i ≠ b3 := fun e => by subst e; rw [h3] at h; cases h
      simp only [St.ins, St.del, ob, e1, e2, if_false, h]⟩
    have hwab : IntKind.i64.wrap (a + b) = a + b := wrap_i64 _ (by omega) (by omega)
    clear hS1 hS17 hS13 hS3 hS7 hC1 hC2 hC3 hA
    (repeat' (first | (simp (config := { maxDischargeDepth := 16 }) only [*, vX, Int.reduceLE, Int.reduceLT, Int.reduceGE, Int.reduceGT, Int.reduceBEq, Int.reduceBNe, Int.reduceAdd, Int.reduceSub, Int.reduceMul, Int.reduceNeg, ↓vD, vU, ↓vMd, vMu, VE.ev, VE.evs, retvs, tupOf, grab, vfill, vbsl, eqCells, eqCell, veqs, veqs1, vmnx, AV.isCell, AV.isUndef, Nat.reduceEqDiff, Nat.reduceAdd, Nat.reduceSub, Nat.reduceLeDiff, Nat.reduceLT, reduceIte, reduceCtorEq, Nat.reduceBEq]) | (simp (disch := first | assumption | omega | exact Seg.len _ | exact Vec.len _ | exact Leg.len _ | exact num_len _ | exact rowA_len _ | exact rowA_len | exact rowT_len _ | exact rowT_len | exact Seg.len | exact Vec.len | exact Leg.len | exact num_len | exact AV.slen _ _ | rfl) only [vP]) | (with_reducible (first | refine gsnd (fun _ => ?_) (fun _ => ?_) | refine csnd (fun _ => ?_) (fun _ => ?_) | refine gsd (fun _ => ?_) (fun _ => ?_) | refine csd (fun _ => ?_) (fun _ => ?_) | refine gsn (fun _ => ?_) (fun _ => ?_) | refine csn (fun _ => ?_) (fun _ => ?_))) | (with_reducible refine gs (fun _ => ?_) (fun _ => ?_)) | (with_reducible refine cs_ (fun _ => ?_) (fun _ => ?_)) | (with_reducible refine objQ_i (fun _ _ => ?_); (repeat (with_reducible refine imp_i (fun _ => ?_)))) | (with_reducible refine freshQ_i (fun _ _ => ?_)) | (with_reducible refine nilQ_i (fun _ _ => ?_))))
    refine callH_then (VCalls.pre hfr (hC Z _)) ?_
    rintro _ _ ⟨rfl, rfl⟩
    clear hfr hC hv0 hv4
    (repeat' (first | (simp (config := { maxDischargeDepth := 16 }) only [*, vX, Int.reduceLE, Int.reduceLT, Int.reduceGE, Int.reduceGT, Int.reduceBEq, Int.reduceBNe, Int.reduceAdd, Int.reduceSub, Int.reduceMul, Int.reduceNeg, ↓vD, vU, ↓vMd, vMu, VE.ev, VE.evs, retvs, tupOf, grab, vfill, vbsl, eqCells, eqCell, veqs, veqs1, vmnx, AV.isCell, AV.isUndef, Nat.reduceEqDiff, Nat.reduceAdd, Nat.reduceSub, Nat.reduceLeDiff, Nat.reduceLT, reduceIte, reduceCtorEq, Nat.reduceBEq]) | (simp (disch := first | assumption | omega | exact Seg.len _ | exact Vec.len _ | exact Leg.len _ | exact num_len _ | exact rowA_len _ | exact rowA_len | exact rowT_len _ | exact rowT_len | exact Seg.len | exact Vec.len | exact Leg.len | exact num_len | exact AV.slen _ _ | rfl) only [vP]) | (with_reducible (first | refine gsnd (fun _ => ?_) (fun _ => ?_) | refine csnd (fun _ => ?_) (fun _ => ?_) | refine gsd (fun _ => ?_) (fun _ => ?_) | refine csd (fun _ => ?_) (fun _ => ?_) | refine gsn (fun _ => ?_) (fun _ => ?_) | refine csn (fun _ => ?_) (fun _ => ?_))) | (with_reducible refine gs (fun _ => ?_) (fun _ => ?_)) | (with_reducible refine cs_ (fun _ => ?_) (fun _ => ?_)) | (with_reducible refine objQ_i (fun _ _ => ?_); (repeat (with_reducible refine imp_i (fun _ => ?_)))) | (with_reducible refine freshQ_i (fun _ _ => ?_)) | (with_reducible refine nilQ_i (fun _ _ => ?_)) | (with_reducible first | refine callH_use (head_17) ?_ | refine pureQ_use (head_17) ?_)))
    exact hle.out
end Go.Proofs.Ytglekfgoadehbaa.V
end
section
set_option linter.unusedSimpArgs false
set_option linter.unusedVariables false
/- What the laws of cost are handed. -/
namespace Go.Proofs.Ytglekfgoadehbaa.V
open Go Go.ChangeShapes Go.WideShapes Go.ChangeAt Go.RowKit Go.Deep
set_option maxRecDepth 100000
theorem opn_Ask17 : Opn 46 6 Ask17.a wfAsk17 :=
  opn_of (OpC.mono (opc_struct (ps := [(1, _), (1, _), (2, _), (1, _), (1, _)]) Try.underlying46 (by kernel_rfl) ⟨⟨rfl, by kernel_rfl, opc_sl Try.underlying41 (by kernel_rfl) (by decide) opn_seg⟩, ⟨rfl, by kernel_rfl, opc_sl Try.underlying41 (by kernel_rfl) (by decide) opn_seg⟩,
    ⟨rfl, by kernel_rfl, opc_of opn_win⟩, ⟨rfl, by kernel_rfl, opc_sl Try.underlying44 (by kernel_rfl) (by decide) opn_leg⟩, ⟨rfl, by kernel_rfl, opc_int (k := .i64) (by kernel_rfl)⟩, trivial⟩) (by
    rintro l ⟨_, _, rfl, ⟨load, rfl, h1⟩, _, _, rfl, ⟨f, rfl, h2⟩, _, _, rfl, ⟨w, rfl, hw⟩, _, _, rfl, ⟨ls, rfl, hl⟩, _, _, rfl, ⟨n, rfl, hn⟩, rfl⟩
    exact ⟨⟨load, f, w, ls, n⟩, rfl, h1, h2, hw, hl, i64_of hn⟩))
theorem open_Ask17 {H : Type} {enc : TypeId × Value → H} {w : World} {base base' : Nat} {spare : Nat → Bool} {held : Bool} {v : Value} {d : DataW H} {ps : List MemPlace} {r : Reach} (hval : Value.okWide Try.prog w r base' 46 v) (h : DataW.Trod enc Try.prog w base spare held 46 v d ps) :
    ∃ x : Ask17, Rep (imW w) x.a v ∧ wfAsk17 x := open_agg (g := fun x : Ask17 => [.sl (x.load.map Seg.a) .no, .sl (x.f.map Seg.a) .no, .int .i64 x.w.m, .int .i64 x.w.c, .sl (x.l.map Leg.a) .no, .int .i64 x.many]) Try.underlying46 opn_Ask17 hval h
end Go.Proofs.Ytglekfgoadehbaa.V
end
section
set_option linter.unusedSimpArgs false
set_option linter.unusedVariables false
/- A number of 32 bits that is handed in. -/
namespace Go.Proofs.Ytglekfgoadehbaa.V
open Go Go.ChangeShapes Go.WideShapes Go.ChangeAt Go.RowKit Go.Deep
set_option maxRecDepth 100000
theorem i32_of {n : Int} (h : (Lit.int .i32 n).wf = true) : I32 n := by
  simp [Lit.wf] at h
  unfold I32
  first | exact h | omega | (have := h; simp [IntKind.wrap, IntKind.lo, IntKind.hi] at this; omega)
theorem open_i32 {H : Type} {enc : TypeId × Value → H} {w : World} {base base' : Nat} {spare : Nat → Bool} {held : Bool} {v : Value} {d : DataW H} {ps : List MemPlace} {r : Reach} (hval : Value.okWide Try.prog w r base' 21 v) (h : DataW.Trod enc Try.prog w base spare held 21 v d ps) :
    ∃ n : Int, Rep (imW w) (.int .i32 n) v ∧ I32 n := by
  obtain ⟨n, rfl, _, _, hw⟩ := open_int Try.underlying21 hval h
  exact ⟨n, by simp [Rep], i32_of hw⟩
end Go.Proofs.Ytglekfgoadehbaa.V
end
