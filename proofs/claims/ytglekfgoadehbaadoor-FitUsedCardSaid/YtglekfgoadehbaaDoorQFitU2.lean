/- Texts of this claim, joined: VP, VQ, VS, VXvec, VXliveryref01, VT, VU, VMb, VW, CslB, Cvec, VXslices, CslSeg, VXrle, Crle, LvSP, LvSB, CsoB. -/
import Derived.Test.YtglekfgoadehbaaDoorQFitU1
import Derived.ScopeJumps
import Derived.Test.YtglekfgoadehbaaDoorProg
section
set_option linter.unusedSimpArgs false
set_option linter.unusedVariables false
/- What is asked of a walk is what the program does. -/
namespace Go.Proofs.YtglekfgoadehbaaDoor.V
open Go Go.RowKit
variable {P : Program}
theorem FrRep.args {J : Im} {n : Nat} {a : Act} {fr : Fr} (hf : FrRep J n fr a) : ∀ (ps : List Nat) (args : List AV) (vs : List Value) (t : Nat → AV) (tm : Array Value), (∀ p ∈ ps, p < n) → RepL J args vs → tm.size = n → (∀ i, Rep J (t i) (tm.getD i Go.undef)) →
    FrRep J n { t := (ps.zip args).foldl (fun t (p, v) => fun i => if i = p then v else t i) t, d := [] } { tmps := (ps.zip vs).foldl (fun tm (p, v) => tm.setIfInBounds p v) tm, defers := [] }
  | [], args, vs, t, tm, _, _, hs, ht => ⟨by simpa using hs, fun i => by simpa [Act.eval] using ht i, rfl, hf.glob⟩
  | p :: ps, [], [], t, tm, _, _, hs, ht => ⟨by simpa using hs, fun i => by simpa [Act.eval] using ht i, rfl, hf.glob⟩
  | p :: ps, x :: args, v :: vs, t, tm, hp, hr, hs, ht => by
    simp only [List.zip_cons_cons, List.foldl_cons]
    refine FrRep.args hf ps args vs _ _ (fun q hq => hp q (by simp [hq])) hr.2 (by simpa using hs) (fun i => ?_)
    have hpn := hp p (by simp)
    by_cases hi : i = p
    · subst hi
      rw [if_pos rfl, Array.getD_eq_getD_getElem?, Array.getElem?_setIfInBounds_self_of_lt (by omega)]
      exact hr.1
    · rw [if_neg hi, Array.getD_eq_getD_getElem?, Array.getElem?_setIfInBounds_ne (fun e => hi e.symm), ← Array.getD_eq_getD_getElem?]
      exact ht i
  | _ :: _, [], _ :: _, _, _, _, h, _, _ => h.elim
  | _ :: _, _ :: _, [], _, _, _, h, _, _ => h.elim
theorem jump_ok {B : Base} {I : Im} {st : St} {W : World} {fr : Fr} {a : Act} {n : Nat} {ro : Option Nat} {Q : Exit → Fr → St → Prop} (h : Rel B I st W) (hf : FrRep I n fr a) {p : Option Code} (hj : jumpQ Q p fr st) :
    match p with
    | none => Lift B I n Q .normal a W
    | some c => c.wpIn (FR ro) 0 P (Lift B I n Q) a W := by
  cases p with
  | none => exact .of h hf hj
  | some c => cases c <;> simp only [jumpQ] at hj <;> first | exact hj.elim | skip
              · exact wpIn_exit (.of h hf hj)
              · exact wpIn_goto (.of h hf hj)
              · exact wpIn_ret (.of h hf hj)
theorem yield_of {n : Nat} {fr : Fr} {a : Act} {I : Im} {l : Nat} {r : Loop} {vasg vbody : VCode} (hfr : FrRep I n fr a) (hr : r.tmps = a.tmps) (hps : ∀ p ∈ r.params.toList, p < n)
    (ihA : ∀ (Z : Im) (ro : Option Nat) (Q : Exit → Fr → St → Prop) (B : Base) (I : Im) (fr : Fr) (st : St) (a : Act) (W : World), Z.le I → vwp P vasg Z ro Q fr st → Rel B I st W → FrRep I n fr a → r.assign.wpIn (FR ro) 0 P (Lift B I n Q) a W)
    (ihB : ∀ (Z : Im) (ro : Option Nat) (Q : Exit → Fr → St → Prop) (B : Base) (I : Im) (fr : Fr) (st : St) (a : Act) (W : World), Z.le I → vwp P vbody Z ro Q fr st → Rel B I st W → FrRep I n fr a → r.body.wpIn (FR ro) 0 P (Lift B I n Q) a W)
    (args : List AV) (st' : St) (K : AV → St → Prop) (hlen : args.length = r.params.toList.length) (hl : st'.objs l = some (lobj r .ready none))
    (hv : vwp P vasg I (some l) (fun e fr1 st1 => e = .normal ∧ st1.objs l = some (lobj r .ready none) ∧ vwp P vbody I (some l) (roundQ l r K) fr1 (st1.ins l (lobj r .busy none))) (argsFr r.params.toList args fr) st') : VYield P I l args st' K := by
  intro B' I' W' vs hz hrel hargs
  have hL := hrel.raw l _ hl
  have hsz : vs.size = r.params.size := by have := hargs.length; simp at this hlen; omega
  have hy := run_yield (P := P) (args := vs) hL (by simpa using hsz)
  refine ⟨_, _, _, _, hy, roundIn_of_wpIn trivial ?_⟩
  have hf' : FrRep I' n (argsFr r.params.toList args fr) { tmps := (r.params.zip vs).foldl (fun tmps (t, a) => tmps.setIfInBounds t a) r.tmps, defers := [] } := by
    have hb : FrRep I' n fr a := ⟨hfr.size, fun i => (hfr.rep i).mono hz, hfr.defs, hfr.glob.mono hz⟩
    have := FrRep.args hb r.params.toList args vs.toList fr.t r.tmps hps hargs (by rw [hr]; exact hfr.size) (fun i => by have := hb.rep i; rw [hr]; simpa [Act.eval] using this)
    have e : (r.params.zip vs).foldl (fun tmps (t, a) => tmps.setIfInBounds t a) r.tmps = (r.params.toList.zip vs.toList).foldl (fun tm (p, v) => tm.setIfInBounds p v) r.tmps := by
      rw [← Array.foldl_toList]; simp
    rw [e]; exact this
  have hA := ihA I (some l) _ B' I' _ st' _ W' hz hv hrel hf'
  refine wpIn_mono (hA : r.assign.wpIn (Fence.wide.inRound l) 0 P _ _ _) (fun e a1 W1 => ?_)
  rintro ⟨J, fr1, st1, hle1, hr1, hf1, rfl, hl1, hv1⟩
  have hL1 := hr1.raw l _ hl1
  refine ⟨_, run_beginRound hL1 rfl, ?_⟩
  have hr2 := hr1.put_raw (o' := .loop { r with state := .busy, pending := none }) hl1
  have hB := ihB I (some l) _ B' J fr1 _ a1 _ (hz.trans hle1) hv1 hr2 hf1
  refine wpIn_mono (hB : r.body.wpIn (Fence.wide.inRound l) 0 P _ _ _) (fun e2 a2 W2 => ?_)
  rintro ⟨J2, fr2, st2, hle2, hr3, hf3, hq⟩
  cases e2 <;> simp only [roundQ] at hq <;> first | exact hq.elim | skip
  all_goals (
    obtain ⟨hl2, hk⟩ := hq
    have hL2 := hr3.raw l _ hl2
    have hend := fun j => run_endRound (P := P) j hL2
    simp only [roundPost])
  · exact ⟨_, _, hend none, _, J2, _, .bool true, rfl, hle1.trans hle2, hr3.put_raw hl2, by simp only [Rep]; rfl, hk⟩
  · exact ⟨_, _, hend _, _, J2, _, .bool false, rfl, hle1.trans hle2, hr3.put_raw hl2, by simp only [Rep]; rfl, hk⟩
  · exact ⟨_, _, hend _, _, J2, _, .bool false, rfl, hle1.trans hle2, hr3.put_raw hl2, by simp only [Rep]; rfl, hk⟩
  · exact ⟨_, _, hend _, _, J2, _, .bool false, rfl, hle1.trans hle2, hr3.put_raw hl2, by simp only [Rep]; rfl, hk⟩
theorem find_ok {n : Nat} : ∀ (c : Code) (vc : VCode), comp P n c = some vc → ∀ (l : Nat) (vr : VCode), vfind vc l = some vr → ∃ rest, findLabel c l = some rest ∧ comp P n rest = some vr := by
  intro c
  induction c with
  | seq x y ihx ihy =>
    intro vc hc l vr hv
    simp only [comp] at hc
    split at hc
    · rename_i vx vy h1 h2
      cases hc
      simp only [vfind] at hv
      cases hfx : vfind vx l with
      | some r =>
        rw [hfx] at hv; cases hv
        obtain ⟨rest, q1, q2⟩ := ihx vx h1 l r hfx
        exact ⟨.seq rest y, by simp [findLabel, q1], by simp [comp, q2, h2]⟩
      | none =>
        rw [hfx] at hv
        obtain ⟨rest, q1, q2⟩ := ihy vy h2 l vr hv
        have hn : findLabel x l = none := by
          have none_of : ∀ (c : Code) (vc : VCode), comp P n c = some vc → vfind vc l = none → findLabel c l = none := by
            intro c
            induction c with
            | seq a b iha ihb =>
              intro vc hc hv
              simp only [comp] at hc
              split at hc
              · rename_i va vb g1 g2
                cases hc
                simp only [vfind] at hv
                cases hfa : vfind va l with
                | some r => rw [hfa] at hv; cases hv
                | none => rw [hfa] at hv; simp [findLabel, iha va g1 hfa, ihb vb g2 hv]
              · cases hc
            | label l' => intro vc hc hv; cases hc; simp only [vfind] at hv; simp only [findLabel]; split at hv; cases hv; rename_i h; rw [if_neg h]
            | _ => intro vc hc hv; rfl
          exact none_of x vx h1 hfx
        exact ⟨rest, by simp [findLabel, hn, q1], q2⟩
    · cases hc
  | label l' =>
    intro vc hc l vr hv
    cases hc
    simp only [vfind] at hv
    obtain ⟨h1, rfl⟩ := ite_some hv
    exact ⟨.skip, by simp only [findLabel]; rw [if_pos h1], rfl⟩
  | skip => intro vc hc l vr hv; cases hc; cases hv
  | exit id => intro vc hc l vr hv; cases hc; cases hv
  | ret => intro vc hc l vr hv; cases hc; cases hv
  | goto t => intro vc hc l vr hv; cases hc; cases hv
  | refuse s => intro vc hc; cases hc
  | block id b _ => intro vc hc l vr hv; obtain ⟨vb, _, rfl⟩ := Option.map_eq_some_iff.1 hc; cases hv
  | loop b _ => intro vc hc l vr hv; obtain ⟨vb, _, rfl⟩ := Option.map_eq_some_iff.1 hc; cases hv
  | region id ops draw =>
    intro vc hc l vr hv
    cases draw with
    | false => obtain ⟨vb, _, rfl⟩ := Option.map_eq_some_iff.1 hc; cases hv
    | true =>
      simp only [comp] at hc
      split at hc
      · obtain ⟨_, rfl⟩ := ite_some hc; cases hv
      · cases hc
  | cond c x y _ _ =>
    intro vc hc l vr hv
    simp only [comp] at hc
    split at hc
    · cases hc; cases hv
    · cases hc
  | scope b _ =>
    intro vc hc l vr hv
    simp only [comp] at hc
    split at hc
    · split at hc
      · split at hc
        · cases hc; cases hv
        · cases hc
      · cases hc
    · cases hc
  | rangeFunc g ps a b _ _ =>
    intro vc hc l vr hv
    simp only [comp] at hc
    split at hc
    · obtain ⟨_, rfl⟩ := ite_some hc; cases hv
    · cases hc
def deep : Code → Nat
  | .seq a b => deep a + deep b + 1
  | .cond _ a b => deep a + deep b + 1
  | .block _ a | .loop a | .scope a => deep a + 1
  | .rangeFunc _ _ a b => deep a + deep b + 1
  | _ => 1
theorem deep_pos (c : Code) : 0 < deep c := by cases c <;> simp [deep]
theorem find_deep : ∀ (c : Code) (l : Nat) (r : Code), findLabel c l = some r → deep r ≤ deep c
  | .seq a b, l, r, h => by
    simp only [findLabel] at h
    cases ha : findLabel a l with
    | some x => rw [ha] at h; cases h; have := find_deep a l x ha; simp only [deep]; omega
    | none => rw [ha] at h; have := find_deep b l r h; simp only [deep]; omega
  | .label l', l, r, h => by simp only [findLabel] at h; obtain ⟨_, rfl⟩ := ite_some h; simp [deep]
  | .skip, _, _, h => by simp [findLabel] at h
  | .region .., _, _, h => by simp [findLabel] at h
  | .cond .., _, _, h => by simp [findLabel] at h
  | .block .., _, _, h => by simp [findLabel] at h
  | .loop .., _, _, h => by simp [findLabel] at h
  | .rangeFunc .., _, _, h => by simp [findLabel] at h
  | .exit .., _, _, h => by simp [findLabel] at h
  | .scope .., _, _, h => by simp [findLabel] at h
  | .goto .., _, _, h => by simp [findLabel] at h
  | .ret, _, _, h => by simp [findLabel] at h
  | .refuse .., _, _, h => by simp [findLabel] at h
theorem vwp_aux {n : Nat} : ∀ (N : Nat) (c : Code), deep c ≤ N → ∀ (vc : VCode), comp P n c = some vc → ∀ (Z : Im) (ro : Option Nat) (Q : Exit → Fr → St → Prop) (B : Base) (I : Im) (fr : Fr) (st : St) (a : Act) (W : World), Z.le I → vwp P vc Z ro Q fr st → Rel B I st W → FrRep I n fr a →
    c.wpIn (FR ro) 0 P (Lift B I n Q) a W := by
  intro N
  induction N with
  | zero => intro c hN; have := deep_pos c; omega
  | succ N ih =>
  intro c hN
  cases c with
  | skip => intro vc hc Z ro Q B I fr st a W hz hv h hf; cases hc; exact wpIn_skip (.of h hf hv)
  | label l => intro vc hc Z ro Q B I fr st a W hz hv h hf; cases hc; exact wpIn_label (.of h hf hv)
  | exit id => intro vc hc Z ro Q B I fr st a W hz hv h hf; cases hc; exact wpIn_exit (.of h hf hv)
  | ret => intro vc hc Z ro Q B I fr st a W hz hv h hf; cases hc; exact wpIn_ret (.of h hf hv)
  | goto t => intro vc hc Z ro Q B I fr st a W hz hv h hf; cases hc; exact wpIn_goto (.of h hf hv)
  | refuse s => intro vc hc; cases hc
  | scope b =>
    intro vc hc Z ro Q B I fr st a W hz hv h hf
    simp only [comp] at hc
    split at hc
    · rename_i vb hb
      split at hc
      · rename_i l hl
        split at hc
        · rename_i vr hvr
          cases hc
          simp only [vwp] at hv
          obtain ⟨rfl, J, μ, hfirst, hpass⟩ := hv
          obtain ⟨rest, hrest, hcr⟩ := find_ok b vb hb l vr hvr
          have hdr := find_deep b l rest hrest
          simp only [deep] at hN
          have ihb := ih b (by omega) vb hb
          have ihr := ih rest (by omega) vr hcr
          let p : Act → World → Nat → Prop := fun a' W' m => ∃ K fr' st', I.le K ∧ Rel B K st' W' ∧ FrRep K n fr' a' ∧ J fr' st' ∧ μ fr' st' = m
          refine wpIn_wide.2 (wp_scope_jumps l (fun a' W' => ∃ m, p a' W' m) (fun a' W' => least (p a' W')) hrest (wpIn_wide (n := 0).1 ?_) (fun a1 W1 hex => ?_))
          · refine wpIn_mono (ihb Z none _ B I fr st a W hz hfirst h hf) (fun e a2 W2 => ?_)
            rintro ⟨K, fr2, st2, hle2, hr2, hf2, hq⟩
            cases e with
            | goto l' => exact ⟨hq.1, _, K, fr2, st2, hle2, hr2, hf2, hq.2, rfl⟩
            | normal => exact ⟨K, fr2, st2, hle2, hr2, hf2, hq⟩
            | exit id => exact ⟨K, fr2, st2, hle2, hr2, hf2, hq⟩
            | ret => exact ⟨K, fr2, st2, hle2, hr2, hf2, hq⟩
            | panic ch => exact ⟨K, fr2, st2, hle2, hr2, hf2, hq⟩
            | outgrown => exact ⟨K, fr2, st2, hle2, hr2, hf2, hq⟩
          · obtain ⟨⟨K, fr1, st1, hle, hr, hf1, hi1, hm⟩, _⟩ := least_spec hex
            refine wpIn_wide (n := 0).1 (wpIn_mono (ihr Z none _ B K fr1 st1 a1 W1 (hz.trans hle) (hpass fr1 st1 hi1) hr hf1) (fun e a2 W2 => ?_))
            rintro ⟨K2, fr2, st2, hle2, hr2, hf2, hq⟩
            cases e with
            | goto l' =>
              obtain ⟨e, s, hs, hi2, hlt⟩ := hq
              have hp2 : p a2 W2 (μ fr2 s) := ⟨K2, fr2, s, hle.trans hle2, hr2.weaken hs, hf2, hi2, rfl⟩
              exact ⟨e, ⟨_, hp2⟩, by have := (least_spec ⟨_, hp2⟩).2 _ hp2; omega⟩
            | normal => exact ⟨K2, fr2, st2, hle.trans hle2, hr2, hf2, hq⟩
            | exit id => exact ⟨K2, fr2, st2, hle.trans hle2, hr2, hf2, hq⟩
            | ret => exact ⟨K2, fr2, st2, hle.trans hle2, hr2, hf2, hq⟩
            | panic ch => exact ⟨K2, fr2, st2, hle.trans hle2, hr2, hf2, hq⟩
            | outgrown => exact ⟨K2, fr2, st2, hle.trans hle2, hr2, hf2, hq⟩
        · cases hc
      · cases hc
    · cases hc
  | region id ops draw =>
    intro vc hc Z ro Q B I fr st a W hz hv h hf
    cases draw with
    | false =>
      obtain ⟨vs, hvs, rfl⟩ := Option.map_eq_some_iff.1 hc
      simp only [vwp] at hv
      have hls : vs.length = ops.size := by rw [(compOps_ok hvs).1]; simp
      exact wpIn_region (ops_region hvs hz _ (fun i hi => List.mem_range.1 hi) (by rw [← hls, filterMap_range]; exact hv) h hf)
    | true =>
      simp only [comp] at hc
      split at hc
      · rename_i vs hvs
        obtain ⟨⟨hd, ha⟩, rfl⟩ := ite_some hc
        simp only [vwp] at hv
        exact draw_region hvs hd ha hz hv h hf
      · cases hc
  | seq x y =>
    simp only [deep] at hN
    have ihx := ih x (by omega)
    have ihy := ih y (by omega)
    intro vc hc Z ro Q B I fr st a W hz hv h hf
    simp only [comp] at hc
    split at hc
    · rename_i vx vy h1 h2
      cases hc
      simp only [vwp] at hv
      refine wpIn_seq (wpIn_mono (ihx vx h1 Z ro _ B I fr st a W hz hv h hf) (fun e a' W' => ?_))
      rintro ⟨J, fr', st', hle, hr, hf', hq⟩
      cases e with
      | normal => exact wpIn_mono (ihy vy h2 Z ro Q B J fr' st' a' W' (hz.trans hle) hq hr hf') (fun e a2 W2 hl => hl.mono hle)
      | exit id => exact ⟨J, fr', st', hle, hr, hf', hq⟩
      | goto t => exact ⟨J, fr', st', hle, hr, hf', hq⟩
      | ret => exact ⟨J, fr', st', hle, hr, hf', hq⟩
      | panic ch => exact ⟨J, fr', st', hle, hr, hf', hq⟩
      | outgrown => exact ⟨J, fr', st', hle, hr, hf', hq⟩
    · cases hc
  | cond c x y =>
    simp only [deep] at hN
    have ihx := ih x (by omega)
    have ihy := ih y (by omega)
    intro vc hc Z ro Q B I fr st a W hz hv h hf
    simp only [comp] at hc
    split at hc
    · rename_i vc' vx vy h0 h1 h2
      cases hc
      simp only [vwp, condQ] at hv
      have hcr := compE_ok hf h0
      split at hv
      · rename_i t ht
        rw [ht] at hcr; simp only [Rep] at hcr
        refine wpIn_cond_split hcr (fun e => ihx vx h1 Z ro Q B I fr st a W hz (hv.1 e) h hf) (fun e => ihy vy h2 Z ro Q B I fr st a W hz (hv.2 e) h hf)
      · exact hv.elim
    · cases hc
  | block id b =>
    simp only [deep] at hN
    have ih := ih b (by omega)
    intro vc hc Z ro Q B I fr st a W hz hv h hf
    obtain ⟨vb, hb, rfl⟩ := Option.map_eq_some_iff.1 hc
    simp only [vwp] at hv
    refine wpIn_block (wpIn_mono (ih vb hb Z ro _ B I fr st a W hz hv h hf) (fun e a' W' => ?_))
    rintro ⟨J, fr', st', hle, hr, hf', hq⟩
    cases e with
    | exit id' =>
      simp only [Exit.inBlock, blockQ] at hq ⊢
      split
      · rename_i e; rw [if_pos e] at hq; exact ⟨J, fr', st', hle, hr, hf', hq⟩
      · rename_i e; rw [if_neg e] at hq; exact ⟨J, fr', st', hle, hr, hf', hq⟩
    | normal => exact ⟨J, fr', st', hle, hr, hf', hq⟩
    | goto t => exact ⟨J, fr', st', hle, hr, hf', hq⟩
    | ret => exact ⟨J, fr', st', hle, hr, hf', hq⟩
    | panic ch => exact ⟨J, fr', st', hle, hr, hf', hq⟩
    | outgrown => exact ⟨J, fr', st', hle, hr, hf', hq⟩
  | loop b =>
    simp only [deep] at hN
    have ih := ih b (by omega)
    intro vc hc Z ro Q B I fr st a W hz hv h hf
    obtain ⟨vb, hb, rfl⟩ := Option.map_eq_some_iff.1 hc
    simp only [vwp] at hv
    obtain ⟨Inv, μ, h0, hround⟩ := hv
    let p : Act → World → Nat → Prop := fun a' W' m => ∃ J fr' st', I.le J ∧ Rel B J st' W' ∧ FrRep J n fr' a' ∧ Inv fr' st' ∧ μ fr' st' = m
    refine wpIn_loop (fun a' W' => ∃ m, p a' W' m) (fun a' W' => least (p a' W')) ⟨_, I, fr, st, Im.le.refl _, h, hf, h0, rfl⟩ (fun a1 W1 hex => ?_)
    obtain ⟨⟨J, fr1, st1, hle, hr, hf1, hi1, hm⟩, _⟩ := least_spec hex
    refine wpIn_mono (ih vb hb Z ro _ B J fr1 st1 a1 W1 (hz.trans hle) (hround fr1 st1 hi1) hr hf1) (fun e a2 W2 => ?_)
    rintro ⟨J2, fr2, st2, hle2, hr2, hf2, hq⟩
    cases e with
    | normal =>
      obtain ⟨s, hs, hi2, hlt⟩ := hq
      have hp2 : p a2 W2 (μ fr2 s) := ⟨J2, fr2, s, hle.trans hle2, hr2.weaken hs, hf2, hi2, rfl⟩
      exact ⟨⟨_, hp2⟩, by have := (least_spec ⟨_, hp2⟩).2 _ hp2; omega⟩
    | exit id => exact ⟨J2, fr2, st2, hle.trans hle2, hr2, hf2, hq⟩
    | goto t => exact ⟨J2, fr2, st2, hle.trans hle2, hr2, hf2, hq⟩
    | ret => exact ⟨J2, fr2, st2, hle.trans hle2, hr2, hf2, hq⟩
    | panic ch => exact ⟨J2, fr2, st2, hle.trans hle2, hr2, hf2, hq⟩
    | outgrown => exact ⟨J2, fr2, st2, hle.trans hle2, hr2, hf2, hq⟩
  | rangeFunc g ps asg body =>
    simp only [deep] at hN
    have ihA := ih asg (by omega)
    have ihB := ih body (by omega)
    intro vc hc Z ro Q B I fr st a W hz hv h hf
    simp only [comp] at hc
    split at hc
    · rename_i vg va vb h0 h1 h2
      obtain ⟨hps, rfl⟩ := ite_some hc
      have hps' : ∀ p ∈ ps.toList, p < n := fun p hp => by simpa using List.all_eq_true.1 hps p hp
      have hg := compE_ok hf h0
      simp only [vwp] at hv
      split at hv
      case h_2 => exact hv.elim
      rename_i gf fs cs hgc
      rw [hgc] at hg; simp only [Rep] at hg
      obtain ⟨us, vs, hge, hus, hvs⟩ := hg
      refine wpIn_rangeFunc (fun fn _ => ?_)
      cases ro with
      | none =>
        -- an outermost one
        obtain ⟨r, hr⟩ : ∃ r : Loop, r = { state := .ready, pending := none, fn, tmps := a.tmps, params := ps, assign := asg, body, defers := W.heap.size } := ⟨_, rfl⟩
        have hv := hv I (W.heap.size + 1) W.heap.size r hz (h.fresh (by omega)) (h.fresh (Nat.le_refl _)) (by omega)
          (fun args st' K hlen hl hw => yield_of (r := r) hf (by rw [hr]) (by rw [hr]; exact hps') (by rw [hr]; exact ihA va h1) (by rw [hr]; exact ihB vb h2) args st' K (by rw [hr]; exact hlen) hl (by rw [hr] at hw ⊢; exact hw))
        have hR1 : Rel B I (st.ins W.heap.size dobj) (W.alloc (.deferred (some []))) := (h.alloc_any _).ins_raw (heap_new _ _) (h.immNone (Nat.le_refl _)) (fun k hk e => by have := h.live_lt hk; omega) (.inr h.upd.size)
        have hnew := heap_new (W.alloc (.deferred (some []))) (.loop r)
        rw [World.size_alloc] at hnew
        have hR2 : Rel B I ((st.ins W.heap.size dobj).ins (W.heap.size + 1) (lobj r .ready none)) ((W.alloc (.deferred (some []))).alloc (.loop r)) := by
          have e : lobj r .ready none = .raw (.loop r) := by rw [hr]; rfl
          rw [e]
          exact (hR1.alloc_any _).ins_raw hnew (hR1.immNone (by simp)) (fun k hk e => by have := hR1.live_lt hk; simp at this; omega) (.inr (by have := h.upd.size; omega))
        have hargs : RepL I (fs ++ [.yld (W.heap.size + 1)] ++ cs) (us ++ #[Value.func (.yield (W.heap.size + 1)) #[] #[]] ++ vs).toList := by
          simpa using (hus.append (bs := [.yld (W.heap.size + 1)]) (us := [.func (.yield (W.heap.size + 1)) #[] #[]]) ⟨by simp only [Rep], trivial⟩).append hvs
        have hcall := hv.2 B I _ _ (Im.le.refl _) hR2 hargs
        refine ⟨W.heap.size + 1, [mark W.heap.size], (W.alloc (.deferred (some []))).alloc (.loop r), { target := .fn (.func gf) vs, args := us ++ #[.func (.yield (W.heap.size + 1)) #[] #[]] }, (W.alloc (.deferred (some []))).alloc (.loop r), gf, us ++ #[.func (.yield (W.heap.size + 1)) #[] #[]] ++ vs, (W.alloc (.deferred (some []))).alloc (.loop r), ?_, ?_, fun f' _ => trivial, ?_, fun e => by simp [FR, Fence.wide] at e, ?_⟩
        · rw [hr]; exact run_enterLoop_outer _ _ _ _ _
        · simp only [resolve, hge]; simp [Deferred.ofValue, Act.eval]
        · simp only [invoke]; exact hv.1 _ _
        · have c0 : CallsIn (FR none) (0 - 1) P gf _ _ _ := callsIn_wide (n := 0) |>.2 hcall
          refine CallsIn.mono c0 (fun e W3 => ?_)
          rintro ⟨u, J, st3, v, rfl, hle, hr3, _, s, p, hnb, hl3, hj⟩
          have hL3 := hr3.raw _ _ hl3
          refine ⟨p, _, run_endLoop (P := P) hL3 hnb, ?_⟩
          have hr4 := hr3.put_raw (o' := .loop { r with state := .exhausted, pending := p }) hl3
          have hf4 : FrRep J n { fr with d := W.heap.size :: fr.d } { a with defers := [mark W.heap.size] ++ a.defers } := ⟨hf.size, fun i => (hf.rep i).mono hle, by simp [hf.defs], hf.glob.mono hle⟩
          have := jump_ok (P := P) (ro := none) hr4 hf4 hj
          cases p with
          | none => exact Lift.mono hle this
          | some c => exact wpIn_mono this (fun e a2 W2 hl => hl.mono hle)
      | some l0 =>
        -- one within a round
        obtain ⟨⟨r0, s0, p0, hl0⟩, hv⟩ := hv
        have hL0 := h.raw _ _ hl0
        obtain ⟨r, hr⟩ : ∃ r : Loop, r = { state := .ready, pending := none, fn, tmps := a.tmps, params := ps, assign := asg, body, defers := r0.defers } := ⟨_, rfl⟩
        have hv := hv I W.heap.size r hz (h.fresh (Nat.le_refl _))
          (fun args st' K hlen hl hw => yield_of (r := r) hf (by rw [hr]) (by rw [hr]; exact hps') (by rw [hr]; exact ihA va h1) (by rw [hr]; exact ihB vb h2) args st' K (by rw [hr]; exact hlen) hl (by rw [hr] at hw ⊢; exact hw))
        have hR2 : Rel B I (st.ins W.heap.size (lobj r .ready none)) (W.alloc (.loop r)) := by
          have e : lobj r .ready none = .raw (.loop r) := by rw [hr]; rfl
          rw [e]
          exact (h.alloc_any _).ins_raw (heap_new _ _) (h.immNone (Nat.le_refl _)) (fun k hk e => by have := h.live_lt hk; omega) (.inr h.upd.size)
        have hargs : RepL I (fs ++ [.yld W.heap.size] ++ cs) (us ++ #[Value.func (.yield W.heap.size) #[] #[]] ++ vs).toList := by
          simpa using (hus.append (bs := [.yld W.heap.size]) (us := [.func (.yield W.heap.size) #[] #[]]) ⟨by simp only [Rep], trivial⟩).append hvs
        have hcall := hv.2 B I _ _ (Im.le.refl _) hR2 hargs
        refine ⟨W.heap.size, [], W.alloc (.loop r), { target := .fn (.func gf) vs, args := us ++ #[.func (.yield W.heap.size) #[] #[]] }, W.alloc (.loop r), gf, us ++ #[.func (.yield W.heap.size) #[] #[]] ++ vs, W.alloc (.loop r), ?_, ?_, fun f' _ => trivial, ?_, fun e => by simp [FR, Fence.wide] at e, ?_⟩
        · rw [hr]; exact run_enterLoop_inner hL0 _ _ _ _ _
        · simp only [resolve, hge]; simp [Deferred.ofValue, Act.eval]
        · simp only [invoke]; exact hv.1 _ _
        · have c0 : CallsIn (FR (some l0)) (0 - 1) P gf _ _ _ := callsIn_wide (n := 0) |>.2 hcall
          refine CallsIn.mono c0 (fun e W3 => ?_)
          rintro ⟨u, J, st3, v, rfl, hle, hr3, _, s, p, hnb, hl3, hj⟩
          have hL3 := hr3.raw _ _ hl3
          refine ⟨p, _, run_endLoop (P := P) hL3 hnb, ?_⟩
          have hr4 := hr3.put_raw (o' := .loop { r with state := .exhausted, pending := p }) hl3
          have hf4 : FrRep J n fr { a with defers := [] ++ a.defers } := ⟨hf.size, fun i => (hf.rep i).mono hle, by simp [hf.defs], hf.glob.mono hle⟩
          have := jump_ok (P := P) (ro := some l0) hr4 hf4 hj
          cases p with
          | none => exact Lift.mono hle this
          | some c => exact wpIn_mono this (fun e a2 W2 hl => hl.mono hle)
    · cases hc
theorem vwp_ok {n : Nat} (c : Code) (vc : VCode) (hc : comp P n c = some vc) (Z : Im) (ro : Option Nat) (Q : Exit → Fr → St → Prop) (B : Base) (I : Im) (fr : Fr) (st : St) (a : Act) (W : World) (hz : Z.le I) (hv : vwp P vc Z ro Q fr st) (h : Rel B I st W) (hf : FrRep I n fr a) :
    c.wpIn (FR ro) 0 P (Lift B I n Q) a W := vwp_aux (deep c) c (Nat.le_refl _) vc hc Z ro Q B I fr st a W hz hv h hf
end Go.Proofs.YtglekfgoadehbaaDoor.V
end
section
set_option linter.unusedSimpArgs false
set_option linter.unusedVariables false
/- A function's contract, out of its walk. -/
namespace Go.Proofs.YtglekfgoadehbaaDoor.V
open Go Go.RowKit
inductive RV where
  | t (i : Nat)
  | c (i n : Nat) (ag : Bool)
  deriving Inhabited
structure VFn where
  code : VCode
  rs : List RV
  n : Nat
  deriving Inhabited
def compR (P : Program) : List ResultVar → Option (List RV)
  | [] => some []
  | .tmp t :: r => match compR P r with | some l => some (.t t :: l) | none => none
  | .cell a t :: r => match P.underlying t, P.info? t, compR P r with | some d, some i, some l => some (.c a i.size d.isRow :: l) | _, _, _ => none
def compF (P : Program) (f : Nat) : Option VFn := match P.funcs[f]? with
  | some fn => match fn.body with
    | some c => if (fn.name == "runtime.NumGoroutine") = false then match comp P fn.ntmps c, compR P fn.results.toList with
        | some vc, some rs => some ⟨vc, rs, fn.ntmps⟩
        | _, _ => none else none
    | none => none
  | none => none
def retvs (t : Nat → AV) (st : St) : List RV → Option (List AV)
  | [] => some []
  | .t i :: r => match retvs t st r with | some l => some (t i :: l) | none => none
  | .c i n ag :: r => match vload st (t i) n ag, retvs t st r with | some v, some l => some (v :: l) | _, _ => none
def tupOf : List AV → AV
  | [v] => v
  | vs => .tup vs
def retQ (rs : List RV) (K : AV → St → Prop) : Exit → Fr → St → Prop
  | .normal, fr, st | .ret, fr, st => ∃ vs s, retvs fr.t st rs = some vs ∧ (∀ D ∈ fr.d, st.objs D = some dobj ∧ s.objs D = none) ∧ fr.d.Nodup ∧ s.le st ∧ K (tupOf vs) s
  | _, _, _ => False
def initFr (args : List AV) : Fr := { t := fun i => match args[i]? with | some a => a | none => .no, d := [] }
variable {P : Program}
section
variable {B : Base} {I : Im} {st : St} {W : World} {fr : Fr} {a : Act} {n : Nat}
theorem vload_raw {D : Nat} {o o' : Obj} (hD : st.objs D = some (.raw o)) {x v : AV} {m : Nat} {ag : Bool} (h : vload st x m ag = some v) : vload (st.ins D (.raw o')) x m ag = some v := by
  unfold vload at h ⊢
  split at h
  · rename_i b off
    split at h
    · rename_i cs hcs
      have hne : b ≠ D := fun e => by rw [e, hD] at hcs; cases hcs
      simp only [St.ins, if_neg hne, hcs]; exact h
    · cases h
  · exact h
  · cases h
theorem retvs_raw {D : Nat} {o o' : Obj} (hD : st.objs D = some (.raw o)) : ∀ {rs : List RV} {vs : List AV}, retvs fr.t st rs = some vs → retvs fr.t (st.ins D (.raw o')) rs = some vs
  | [], _, h => h
  | .t i :: r, vs, h => by
    simp only [retvs] at h ⊢
    cases hr : retvs fr.t st r with
    | none => rw [hr] at h; cases h
    | some l => rw [hr] at h; rw [retvs_raw hD hr]; exact h
  | .c i m ag :: r, vs, h => by
    simp only [retvs] at h ⊢
    cases hv : vload st (fr.t i) m ag with
    | none => rw [hv] at h; cases h
    | some v =>
      rw [hv] at h
      cases hr : retvs fr.t st r with
      | none => rw [hr] at h; cases h
      | some l => rw [hr] at h; rw [vload_raw hD hv, retvs_raw hD hr]; exact h
def resOne (tmps : Array Value) : ResultVar → Sem Value
  | .tmp t => pure (tmps.getD t Go.undef)
  | .cell b t => do loadVar t (← asAddr (tmps.getD b Go.undef))
theorem results_eq (fn : Func) (tmps : Array Value) : results fn tmps = (do let vs ← fn.results.mapM (resOne tmps); pure (if h : vs.size = 1 then vs[0] else .tuple vs)) := by
  unfold results
  congr 1
theorem results_ok (h : Rel B I st W) (hf : ∀ i, Rep I (fr.t i) (a.eval (.tmp i))) : ∀ {rv : List ResultVar} {rs : List RV}, compR P rv = some rs → ∀ {vs : List AV}, retvs fr.t st rs = some vs →
    ∃ us : List Value, (rv.mapM (resOne a.tmps)).run P W = .ok us W ∧ RepL I vs us
  | [], rs, hc, vs, hr => by simp [compR] at hc; subst hc; simp [retvs] at hr; subst hr; exact ⟨[], by simp, by simp [RepL]⟩
  | .tmp t :: r, rs, hc, vs, hr => by
    simp only [compR] at hc
    split at hc
    · rename_i l hl
      cases hc
      simp only [retvs] at hr
      split at hr
      · rename_i l' hl'
        cases hr
        obtain ⟨us, h1, h2⟩ := results_ok h hf hl hl'
        refine ⟨a.tmps.getD t Go.undef :: us, ?_, hf t, h2⟩
        rw [List.mapM_cons, Sem.run_bind]
        simp only [resOne, Sem.run_pure, Result.andThen_ok]
        rw [Sem.run_bind, h1]; rfl
      · cases hr
    · cases hc
  | .cell b t :: r, rs, hc, vs, hr => by
    simp only [compR] at hc
    split at hc
    · rename_i d i l hu hi hl
      cases hc
      simp only [retvs] at hr
      split at hr
      · rename_i v l' hv hl'
        cases hr
        obtain ⟨us, h1, h2⟩ := results_ok h hf hl hl'
        obtain ⟨z, hz, hrz⟩ := vload_ok h hu hi (hf b) hv
        have : (do loadVar t (← asAddr (a.tmps.getD b Go.undef)) : Sem Value).run P W = .ok z W := by
          have hrep := hf b
          unfold vload at hv
          have e : a.eval (.tmp b) = a.tmps.getD b Go.undef := rfl
          rw [e] at hz hrep
          split at hv
          · rename_i b' off hb'
            rw [hb'] at hrep; simp only [Rep] at hrep
            rw [hrep] at hz ⊢
            simpa [Instr.loadAt, Instr.sureAddr, asAddr] using hz
          · rename_i x off hb'
            rw [hb'] at hrep; simp only [Rep] at hrep
            obtain ⟨b', o, u, hrep, _⟩ := hrep
            rw [hrep] at hz ⊢
            simpa [Instr.loadAt, Instr.sureAddr, asAddr] using hz
          · cases hv
        refine ⟨z :: us, ?_, hrz, h2⟩
        rw [List.mapM_cons, Sem.run_bind]
        simp only [resOne]
        rw [this]
        simp only [Result.andThen_ok]
        rw [Sem.run_bind, h1]; rfl
      · cases hr
    · cases hc
theorem leaves_ok {fn : Func} {K : AV → St → Prop} {rs : List RV} (hrs : compR P fn.results.toList = some rs) {R : Ending → World → Prop}
    (hR : ∀ u W' v s, Rel B I s W' → Rep I v u → K v s → R (.returned u) W') : ∀ (ds : List Nat) (st : St) (W : World), Rel B I st W → (∀ i, Rep I (fr.t i) (a.eval (.tmp i))) →
      (∃ vs s, retvs fr.t st rs = some vs ∧ (∀ D ∈ ds, st.objs D = some dobj ∧ s.objs D = none) ∧ ds.Nodup ∧ s.le st ∧ K (tupOf vs) s) → LeavesInM Fence.wide 0 P fn a.tmps R (ds.map mark) .returning W
  | [], st, W, h, hf, ⟨vs, s, h1, h2, h3, h4, h5⟩ => by
    obtain ⟨us, hus, hrep⟩ := results_ok (fr := fr) h hf hrs h1
    simp only [List.map_nil, LeavesInM, LeavesIn]
    refine ⟨if h : us.toArray.size = 1 then us.toArray[0] else .tuple us.toArray, ?_, hR _ _ _ _ (h.weaken h4) ?_ h5⟩
    · rw [results_eq, Sem.run_bind, Array.mapM_eq_mapM_toList]
      have : (List.toArray <$> fn.results.toList.mapM (resOne a.tmps)).run P W = .ok us.toArray W := by
        rw [map_eq_pure_bind, Sem.run_bind, hus]; rfl
      rw [this]
      simp only [Result.andThen_ok]
      split <;> rfl
    · match vs, us, hrep with
      | [], [], _ => simp only [tupOf, Rep]; exact ⟨#[], rfl, by simp [RepL]⟩
      | [v], [u], hr => exact hr.1
      | v :: w :: vs, u :: x :: us, hr => simp only [tupOf, Rep]; exact ⟨(u :: x :: us).toArray, by simp, hr⟩
      | [], _ :: _, hr => exact hr.elim
      | _ :: _, [], hr => exact hr.elim
      | [_], _ :: _ :: _, hr => exact hr.2.elim
      | _ :: _ :: _, [_], hr => exact hr.2.elim
  | D :: ds, st, W, h, hf, ⟨vs, s, h1, h2, h3, h4, h5⟩ => by
    have hD := (h2 D (by simp)).1
    have hnd := List.nodup_cons.1 h3
    simp only [List.map_cons, LeavesInM]
    have hLD := h.raw D _ hD
    refine ⟨by simp, .inl ⟨D, _, rfl, run_takeDeferred hLD, ?_⟩⟩
    have hr2 := h.put_raw (o' := .deferred none) hD
    refine leaves_ok hrs hR ds _ _ hr2 hf ⟨vs, s, retvs_raw hD h1, fun E hE => ?_, hnd.2, ?_, h5⟩
    · have hne : E ≠ D := fun e => hnd.1 (e ▸ hE)
      exact ⟨by simp only [St.ins, if_neg hne]; exact (h2 E (by simp [hE])).1, (h2 E (by simp [hE])).2⟩
    · refine ⟨fun b o hb => ?_, h4.live⟩
      have hne : b ≠ D := fun e => by rw [e, (h2 D (by simp)).2] at hb; cases hb
      simp only [St.ins, if_neg hne]; exact h4.objs b o hb
end
theorem VCalls.of {Z : Im} {f : Nat} {F : VFn} (hF : compF P f = some F) {args : List AV} {st : St} {K : AV → St → Prop} (hn : args.length ≤ F.n) (h : vwp P F.code Z none (retQ F.rs K) (initFr args) st) : VCalls P Z f args st K := by
  unfold compF at hF
  split at hF
  · rename_i fn hfn
    split at hF
    · rename_i c hb
      split at hF
      · rename_i hname
        split at hF
        · rename_i vc rs hc hr
          cases hF
          refine ⟨fun aas w => ?_, fun B I W vs hz hrel hargs => ?_⟩
          · simp only [callFunc, Sem.run_bind, run_program, Result.andThen_ok, hfn]
            simp [hname, hb]
          · have hsz : vs.size = args.length := by have := hargs.length; simpa using this
            refine callsIn_wide.1 (callsIn_of_wp_marks (n := 0) hfn hb trivial ?_ rfl)
            have hf0 : FrRep I fn.ntmps (initFr args) { tmps := vs ++ Array.replicate (fn.ntmps - vs.size) Go.undef, defers := [] } := by
              refine ⟨by simp; simp only at hn; omega, fun i => ?_, rfl, hrel.gok⟩
              simp only [initFr, Act.eval]
              cases hi : args[i]? with
              | some x =>
                obtain ⟨u, hu, hrx⟩ := hargs.get hi
                have hlt : i < vs.size := by have := (List.getElem?_eq_some_iff.1 hu).1; simpa using this
                rw [Array.getD_eq_getD_getElem?, Array.getElem?_append_left hlt]
                have : vs[i]? = some u := by simpa using hu
                rw [this]; exact hrx
              | none =>
                have hge : vs.size ≤ i := by have := List.getElem?_eq_none_iff.1 hi; omega
                simp only [Rep]
                rw [Array.getD_eq_getD_getElem?, Array.getElem?_append_right hge]
                cases hx : (Array.replicate (fn.ntmps - vs.size) Go.undef)[i - vs.size]? with
                | none => rfl
                | some y =>
                  have := Array.getElem?_eq_some_iff.1 hx
                  obtain ⟨_, e⟩ := this
                  simp at e; exact e.symm
            refine wpIn_mono (vwp_ok c vc hc Z none _ B I _ st _ W hz h hrel hf0) (fun e a' W' => ?_)
            rintro ⟨J, fr', st', hle, hr', hf', hq⟩
            have fin : (∃ vs s, retvs fr'.t st' rs = some vs ∧ (∀ D ∈ fr'.d, st'.objs D = some dobj ∧ s.objs D = none) ∧ fr'.d.Nodup ∧ s.le st' ∧ K (tupOf vs) s) → LeavesInM Fence.wide 0 P fn a'.tmps (fun e W' => ∃ u J st' v, e = .returned u ∧ I.le J ∧ Rel B J st' W' ∧ Rep J v u ∧ K v st') a'.defers .returning W' := fun hq => by
              rw [hf'.defs]
              exact leaves_ok (B := B) (I := J) (fr := fr') hr (fun u W2 v s h1 h2 h3 => ⟨u, J, s, v, rfl, hle, h1, h2, h3⟩) fr'.d st' W' hr' hf'.rep hq
            cases e <;> simp only [retQ] at hq <;> first | exact hq.elim | exact fin hq
        · cases hF
      · cases hF
    · cases hF
  · cases hF
end Go.Proofs.YtglekfgoadehbaaDoor.V
end
section
set_option linter.unusedSimpArgs false
set_option linter.unusedVariables false
/- The rules by which a walk is reckoned. -/
namespace Go.Proofs.YtglekfgoadehbaaDoor.V
open Go Go.RowKit
variable {P : Program} {Z : Im}
theorem put_t (fr : Fr) (d : Nat) (v : AV) (i : Nat) : (fr.put (some d) v).t i = if i = d then v else fr.t i := rfl
theorem put_none (fr : Fr) (v : AV) : fr.put none v = fr := rfl
theorem put_d (fr : Fr) (d : Option Nat) (v : AV) : (fr.put d v).d = fr.d := by cases d <;> rfl
theorem ins_objs (st : St) (b i : Nat) (o : AObj) : (st.ins b o).objs i = if i = b then some o else st.objs i := rfl
theorem ins_live (st : St) (b : Nat) (o : AObj) : (st.ins b o).live = st.live := rfl
def guardQ (c : AV) (w : Bool) (A B : Prop) : Prop := match c with
  | .bool b => (b = w → A) ∧ (b ≠ w → B)
  | .no => B
  | _ => False
theorem vop_none (dst : Option Nat) (op : VO) (pre : List Nat) (ap : List (Nat × Nat)) (K : Fr → St → Prop) (fr : Fr) (st : St) : vop P Z ⟨dst, op, none, pre, ap⟩ K fr st = vstep P Z op fr st (fun v s => K (fr.put dst v) s) := by
  simp [vop, gd]
theorem vop_guard (dst : Option Nat) (op : VO) (g : Nat) (w : Bool) (pre : List Nat) (ap : List (Nat × Nat)) (K : Fr → St → Prop) (fr : Fr) (st : St) :
    vop P Z ⟨dst, op, some (g, w), pre, ap⟩ K fr st = guardQ (fr.t g) w (vstep P Z op fr st (fun v s => K (fr.put dst v) s)) (K (fr.put dst .no) st) := by
  simp only [vop, gd, guardQ]
  cases hg : fr.t g <;> simp
theorem vopD_none (dst : Option Nat) (op : VO) (pre : List Nat) (ap : List (Nat × Nat)) (K : Fr → St → Prop) (fr : Fr) (st : St) : vopD P Z ⟨dst, op, none, pre, ap⟩ K fr st = (apOk ⟨dst, op, none, pre, ap⟩ fr ∧ vstepD P Z op fr st (fun v s => K (fr.put dst v) s)) := by
  simp [vopD, gd]
theorem vopD_guard (dst : Option Nat) (op : VO) (g : Nat) (w : Bool) (pre : List Nat) (ap : List (Nat × Nat)) (K : Fr → St → Prop) (fr : Fr) (st : St) :
    vopD P Z ⟨dst, op, some (g, w), pre, ap⟩ K fr st = guardQ (fr.t g) w (apOk ⟨dst, op, some (g, w), pre, ap⟩ fr ∧ vstepD P Z op fr st (fun v s => K (fr.put dst v) s)) (K (fr.put dst .no) st) := by
  simp only [vopD, gd, guardQ]
  cases hg : fr.t g <;> simp
theorem g_tt (A B : Prop) : guardQ (.bool true) true A B = A := by simp [guardQ]
theorem g_tf (A B : Prop) : guardQ (.bool true) false A B = B := by simp [guardQ]
theorem g_ft (A B : Prop) : guardQ (.bool false) true A B = B := by simp [guardQ]
theorem g_ff (A B : Prop) : guardQ (.bool false) false A B = A := by simp [guardQ]
theorem c_tt (A B : Prop) : condQ (.bool true) A B = A := by simp [condQ]
theorem c_ff (A B : Prop) : condQ (.bool false) A B = B := by simp [condQ]
theorem init_t (args : List AV) (i : Nat) : (initFr args).t i = (args[i]?).getD .no := by simp only [initFr]; cases args[i]? <;> rfl
theorem init_d (args : List AV) : (initFr args).d = [] := rfl
/-! ### The walk's steps, one by one -/
section
variable (Z : Im) (ro : Option Nat) (Q : Exit → Fr → St → Prop) (fr : Fr) (st : St)
theorem w_skip : vwp P .skip Z ro Q fr st = Q .normal fr st := rfl
theorem w_label (l : Nat) : vwp P (.label l) Z ro Q fr st = Q .normal fr st := rfl
theorem w_goto (l : Nat) : vwp P (.goto l) Z ro Q fr st = Q (.goto l) fr st := rfl
theorem w_exit (id : Nat) : vwp P (.exit id) Z ro Q fr st = Q (.exit id) fr st := rfl
theorem w_ret : vwp P .ret Z ro Q fr st = Q .ret fr st := rfl
theorem w_reg (ops : List VOp) : vwp P (.reg ops) Z ro Q fr st = vops P Z ops (Q .normal) fr st := rfl
theorem w_dreg (ops : List VOp) : vwp P (.dreg ops) Z ro Q fr st = vopsD P Z ops (Q .normal) fr st := rfl
theorem w_seq (a b : VCode) : vwp P (.seq a b) Z ro Q fr st = vwp P a Z ro (thenQ (vwp P b Z ro Q) Q) fr st := rfl
theorem w_block (id : Nat) (b : VCode) : vwp P (.block id b) Z ro Q fr st = vwp P b Z ro (blockQ id Q) fr st := rfl
end
def retK (x : Option (List AV)) (d : List Nat) (K : AV → St → Prop) (st : St) : Prop := ∃ vs s, x = some vs ∧ (∀ D ∈ d, st.objs D = some dobj ∧ s.objs D = none) ∧ d.Nodup ∧ s.le st ∧ K (tupOf vs) s
theorem r_ret (rs : List RV) (K : AV → St → Prop) (fr : Fr) (st : St) : retQ rs K .ret fr st = retK (retvs fr.t st rs) fr.d K st := rfl
theorem r_normal (rs : List RV) (K : AV → St → Prop) (fr : Fr) (st : St) : retQ rs K .normal fr st = retK (retvs fr.t st rs) fr.d K st := rfl
theorem retK_nil (vs : List AV) (K : AV → St → Prop) (st : St) : retK (some vs) [] K st = ∃ s, s.le st ∧ K (tupOf vs) s := by simp [retK]
theorem St.le.refl (s : St) : s.le s := ⟨fun _ _ h => h, fun _ h => h⟩
theorem St.le.trans {a b c : St} (h : a.le b) (k : b.le c) : a.le c := ⟨fun x o e => k.objs x o (h.objs x o e), fun x e => k.live x (h.live x e)⟩
theorem le_ins {s t : St} (h : s.le t) {b : Nat} (o : AObj) (hb : s.objs b = none) : s.le (t.ins b o) :=
  ⟨fun x y e => by have hne : x ≠ b := fun q => by subst q; rw [hb] at e; cases e
                   simp only [St.ins, if_neg hne]; exact h.objs x y e, h.live⟩
theorem le_add {s t : St} (h : s.le t) (k : Tok) : s.le (t.add k) := ⟨fun x y e => by cases k <;> exact h.objs x y e, fun x e => by cases k <;> simp only [St.add] <;> first | exact h.live x e | (split <;> first | rfl | exact h.live x e)⟩
theorem le_refl_t (s : St) : s.le s = True := eq_true (St.le.refl s)
theorem le_ins_t (s t : St) (b : Nat) (o : AObj) (hb : s.objs b = none) (h : s.le t) : s.le (t.ins b o) = True := eq_true (le_ins h o hb)
theorem le_ins2_t (s t : St) (b : Nat) (o : AObj) (h : s.le t) : (s.ins b o).le (t.ins b o) = True := eq_true ⟨fun x y e => by simp only [St.ins] at e ⊢; split at e <;> simp_all [h.objs x y], h.live⟩
theorem ex_le1 (t st : St) (p : St → Prop) : (∃ s, s.le t ∧ s = st ∧ p s) = (st.le t ∧ p st) :=
  propext ⟨fun ⟨_, h, e, k⟩ => e ▸ ⟨h, k⟩, fun ⟨h, k⟩ => ⟨st, h, rfl, k⟩⟩
theorem ex_le2 (t st : St) (p : Prop) : (∃ s, s.le t ∧ p ∧ s = st) = (st.le t ∧ p) :=
  propext ⟨fun ⟨_, h, k, e⟩ => e ▸ ⟨h, k⟩, fun ⟨h, k⟩ => ⟨st, h, k, rfl⟩⟩
theorem ex_le3 (t st : St) : (∃ s, s.le t ∧ s = st) = st.le t :=
  propext ⟨fun ⟨_, h, e⟩ => e ▸ h, fun h => ⟨st, h, rfl⟩⟩
def apart : AV → AV → Prop
  | .ptr b _, .ptr b' _ => ¬ b = b'
  | _, _ => True
theorem ap_n (d : Option Nat) (op : VO) (g : Option (Nat × Bool)) (p : List Nat) (fr : Fr) : apOk ⟨d, op, g, p, []⟩ fr = True := by
  unfold apOk; cases op <;> simp
theorem ap_c (d : Option Nat) (n : Nat) (x v : VE) (g : Option (Nat × Bool)) (p : List Nat) (i a : Nat) (r : List (Nat × Nat)) (fr : Fr) : apOk ⟨d, .store n x v, g, p, (i, a) :: r⟩ fr = (apart (fr.t a) (x.ev fr) ∧ apOk ⟨d, .store n x v, g, p, r⟩ fr) := by
  simp only [apOk, List.map_cons, List.forall_mem_cons, eq_iff_iff]
  refine and_congr_left' ?_
  constructor
  · intro h
    unfold apart
    split
    · rename_i h1 h2; exact h _ _ _ _ h1 h2
    · trivial
  · intro h b off b' off' h1 h2
    rw [h1, h2] at h; exact h
theorem apart_p (b o b' o' : Nat) : apart (.ptr b o) (.ptr b' o') = ¬ b = b' := rfl
theorem apart_i (x : AV) (o : Nat) (y : AV) : apart (.iptr x o) y = True := by unfold apart; rfl
theorem loop_of {b : VCode} {ro : Option Nat} {Q : Exit → Fr → St → Prop} {fr : Fr} {st : St} (Inv : Fr → St → Prop) (μ : Fr → St → Nat) (h0 : Inv fr st)
    (h : ∀ fr st, Inv fr st → vwp P b Z ro (thenQ (fun fr' st' => ∃ s, s.le st' ∧ Inv fr' s ∧ μ fr' s < μ fr st) Q) fr st) : vwp P (.loop b) Z ro Q fr st := ⟨Inv, μ, h0, h⟩
theorem vwp_mono {ro : Option Nat} : ∀ {c : VCode} {Q Q' : Exit → Fr → St → Prop} {fr : Fr} {st : St}, (∀ e fr st, Q e fr st → Q' e fr st) → vwp P c Z ro Q fr st → vwp P c Z ro Q' fr st
  | .skip, _, _, _, _, h, k => h _ _ _ k
  | .label _, _, _, _, _, h, k => h _ _ _ k
  | .goto _, _, _, _, _, h, k => h _ _ _ k
  | .exit _, _, _, _, _, h, k => h _ _ _ k
  | .ret, _, _, _, _, h, k => h _ _ _ k
  | .reg _, _, _, _, _, h, k => vops_mono (h .normal) k
  | .dreg _, _, _, _, _, h, k => vopsD_mono (h .normal) k
  | .seq a b, _, _, _, _, h, k => vwp_mono (c := a) (fun e fr st q => by
      cases e <;> first | exact vwp_mono (c := b) h q | exact h _ _ _ q) k
  | .cond c a b, _, _, fr, _, h, k => by
      simp only [vwp, condQ] at k ⊢
      split at k
      · exact ⟨fun e => vwp_mono (c := a) h (k.1 e), fun e => vwp_mono (c := b) h (k.2 e)⟩
      · exact k
  | .block id b, _, _, _, _, h, k => vwp_mono (c := b) (fun e fr st q => by
      cases e <;> simp only [blockQ] at q ⊢ <;> first | (split at q <;> first | (rename_i e; rw [if_pos e]; exact h _ _ _ q) | (rename_i e; rw [if_neg e]; exact h _ _ _ q)) | exact h _ _ _ q) k
  | .loop b, _, _, _, _, h, ⟨Inv, μ, h0, hs⟩ => ⟨Inv, μ, h0, fun fr st hi => vwp_mono (c := b) (fun e fr st q => by
      cases e <;> first | exact q | exact h _ _ _ q) (hs fr st hi)⟩
  | .scope c l rest, _, _, _, _, h, ⟨hro, J, μ, h0, hs⟩ => ⟨hro, J, μ, vwp_mono (c := c) (fun e fr st q => by
      cases e <;> first | exact q | exact h _ _ _ q) h0, fun fr st hi => vwp_mono (c := rest) (fun e fr st q => by
      cases e <;> first | exact q | exact h _ _ _ q) (hs fr st hi)⟩
  | .rng g ps asg body, _, _, _, _, h, k => by
      have hj : ∀ {Q Q' : Exit → Fr → St → Prop}, (∀ e fr st, Q e fr st → Q' e fr st) → ∀ p fr st, jumpQ Q p fr st → jumpQ Q' p fr st := fun h p fr st q => by
        unfold jumpQ at q ⊢
        split at q <;> first | exact h _ _ _ q | exact q
      simp only [vwp] at k ⊢
      split at k
      · cases ro with
        | none => exact fun Y l D r h1 h2 h3 h4 h5 => (k Y l D r h1 h2 h3 h4 h5).mono fun v s ⟨a, p, q1, q2, q3⟩ => ⟨a, p, q1, q2, hj h _ _ _ q3⟩
        | some l0 => exact ⟨k.1, fun Y l r h1 h2 h5 => (k.2 Y l r h1 h2 h5).mono fun v s ⟨a, p, q1, q2, q3⟩ => ⟨a, p, q1, q2, hj h _ _ _ q3⟩⟩
      · exact k
theorem wrap_i64 (n : Int) (h1 : -9223372036854775808 ≤ n) (h2 : n ≤ 9223372036854775807) : IntKind.i64.wrap n = n := by
  unfold IntKind.wrap IntKind.bits IntKind.signed
  simp only
  split <;> simp_all <;> omega
theorem loopk_of {b : VCode} {ro : Option Nat} {Q : Exit → Fr → St → Prop} {fr : Fr} {st : St} {len : Nat} (hn : len ≤ 1000000000000) (Inv : Nat → Fr → St → Prop) (h0 : Inv 0 fr st)
    (hs : ∀ k fr st, k < len → IntKind.i64.wrap ((k : Int) + 1) = (k : Int) + 1 → Inv k fr st → vwp P b Z ro (thenQ (fun fr' st' => ∃ s, s.le st' ∧ Inv (k + 1) fr' s) Q) fr st)
    (he : ∀ fr st, Inv len fr st → vwp P b Z ro (thenQ (fun _ _ => False) Q) fr st) : vwp P (.loop b) Z ro Q fr st := by
  classical
  have hp : ∀ fr st, (∃ k, k ≤ len ∧ Inv k fr st) → ∃ m, (∃ k, k + m = len ∧ Inv k fr st) ∧ ∀ j, (∃ k, k + j = len ∧ Inv k fr st) → m ≤ j := fun fr st ⟨k, hk, h⟩ =>
    least_of (fun m => ∃ k, k + m = len ∧ Inv k fr st) ⟨len - k, k, by omega, h⟩
  refine loop_of (fun fr st => ∃ k, k ≤ len ∧ Inv k fr st) (fun fr st => if h : ∃ k, k ≤ len ∧ Inv k fr st then Classical.choose (hp fr st h) else 0) ⟨0, Nat.zero_le _, h0⟩ ?_
  intro fr st hI
  obtain ⟨⟨k, hk, hi⟩, hmin⟩ := Classical.choose_spec (hp fr st hI)
  have hμ : (if h : ∃ k, k ≤ len ∧ Inv k fr st then Classical.choose (hp fr st h) else 0) = Classical.choose (hp fr st hI) := dif_pos hI
  rw [hμ]
  by_cases hlt : k < len
  · refine vwp_mono ?_ (hs k fr st hlt (wrap_i64 _ (by omega) (by omega)) hi)
    intro e fr' st' h'
    cases e <;> simp only [thenQ] at h' ⊢ <;> try exact h'
    obtain ⟨s, hle, hi'⟩ := h'
    have hI' : ∃ k, k ≤ len ∧ Inv k fr' s := ⟨k + 1, hlt, hi'⟩
    refine ⟨s, hle, hI', ?_⟩
    rw [dif_pos hI']
    have := (Classical.choose_spec (hp fr' s hI')).2 (len - (k + 1)) ⟨k + 1, by omega, hi'⟩
    omega
  · have : k = len := by omega
    subst this
    refine vwp_mono ?_ (he fr st hi)
    intro e fr' st' h'
    cases e <;> simp only [thenQ] at h' ⊢ <;> first | exact h'.elim | exact h'
/-! ### What single operations yield -/
section
variable (k : IntKind) (a b : Int)
theorem e_add : vbin .add (.int k a) (.int k b) = some (.int k (k.wrap (a + b))) := by simp [vbin]
theorem e_sub : vbin .sub (.int k a) (.int k b) = some (.int k (k.wrap (a - b))) := by simp [vbin]
theorem e_mul : vbin .mul (.int k a) (.int k b) = some (.int k (k.wrap (a * b))) := by simp [vbin]
theorem e_quo (h : b ≠ 0) : vbin .quo (.int k a) (.int k b) = some (.int k (k.wrap (a.tdiv b))) := by simp [vbin, h]
theorem e_eql : vbin .eql (.int k a) (.int k b) = some (.bool (a == b)) := by simp [vbin]
theorem e_neq : vbin .neq (.int k a) (.int k b) = some (.bool (a != b)) := by simp [vbin]
theorem e_lss : vbin .lss (.int k a) (.int k b) = some (.bool (decide (a < b))) := by simp [vbin]
theorem e_leq : vbin .leq (.int k a) (.int k b) = some (.bool (decide (a ≤ b))) := by simp [vbin]
theorem e_gtr : vbin .gtr (.int k a) (.int k b) = some (.bool (decide (b < a))) := by simp [vbin]
theorem e_geq : vbin .geq (.int k a) (.int k b) = some (.bool (decide (b ≤ a))) := by simp [vbin]
theorem e_neg : vun .neg (.int k a) = some (.int k (k.wrap (0 - a))) := rfl
theorem e_conv (q : IntKind) : vconv q (.int k a) = some (.int q (q.wrap a)) := rfl
theorem e_min : vmin2 (.int k a) (.int k b) = some (.int k (min a b)) := rfl
theorem e_max : vmax2 (.int k a) (.int k b) = some (.int k (max a b)) := rfl
end
theorem e_not (t : Bool) : vun .not (.bool t) = some (.bool (!t)) := rfl
theorem e_pick (t : Bool) (a b : AV) : vpick (.bool t) a b = some (if t then a else b) := rfl
theorem e_pickb (t x y : Bool) : vpick (.bool t) (.bool x) (.bool y) = some (.bool (if t then x else y)) := by cases t <;> rfl
theorem e_ext (vs : List AV) (i : Nat) : vext (.tup vs) i = vs[i]? := rfl
theorem e_len (xs : List AV) (t : Tok) : vlen (.sl xs t) = some (.int .i64 xs.length) := rfl
theorem e_lens (s : ByteArray) : vlens (.str s) = some (.int .i64 s.size) := rfl
theorem e_fad (b o off : Nat) : vfad off (.ptr b o) = some (.ptr b (o + off)) := rfl
theorem e_fadi (x : AV) (o off : Nat) : vfad off (.iptr x o) = some (.iptr x (o + off)) := rfl
theorem e_fld (cs : List AV) (off n : Nat) (ag : Bool) : vfld off n ag (.agg cs) = grab cs off n ag := rfl
theorem e_ld (st : St) (b off n : Nat) (ag : Bool) (cs : List AV) : vload (st.ins b (.cells cs)) (.ptr b off) n ag = grab cs off n ag := by simp [vload, St.ins]
theorem e_ldo (st : St) (b b' off n : Nat) (ag : Bool) (o : AObj) (h : ¬ b = b') : vload (st.ins b' o) (.ptr b off) n ag = vload st (.ptr b off) n ag := by simp [vload, St.ins, h]
theorem e_ldo2 (st : St) (b b' off n : Nat) (ag : Bool) (o : AObj) (h : ¬ b' = b) : vload (st.ins b' o) (.ptr b off) n ag = vload st (.ptr b off) n ag := e_ldo st b b' off n ag o (fun e => h e.symm)
theorem ins_ins (st : St) (b : Nat) (x y : AObj) : (st.ins b x).ins b y = st.ins b y := by
  simp only [St.ins]; congr 1; funext i; split <;> rfl
theorem ite_some_none (b b0 : Nat) (o : AObj) (x : Option AObj) : ((if b = b0 then some o else x) = none) = (¬ b = b0 ∧ ¬ b0 = b ∧ x = none) := by
  by_cases h : b = b0
  · simp [h]
  · simp [h, Ne.symm h]
theorem VPure.use {f : Nat} {args : List AV} {v : AV} (h : VPure P f args v) {st : St} {K : AV → St → Prop} (k : K v st) : VCalls P Z f args st K :=
  (h Z st).mono fun r s e => by rw [e.1, e.2]; exact k
theorem VCalls.use {f : Nat} {args : List AV} {st : St} {K K' : AV → St → Prop} (h : VCalls P Z f args st K) (k : ∀ v s, K v s → K' v s) : VCalls P Z f args st K' := h.mono k
theorem VPure.of {f : Nat} {F : VFn} (hF : compF P f = some F) {args : List AV} {v : AV} (hn : args.length ≤ F.n) (h : ∀ Z st, vwp P F.code Z none (retQ F.rs (fun r s => r = v ∧ s = st)) (initFr args) st) : VPure P f args v :=
  fun Z st => VCalls.of hF hn (h Z st)
theorem e_ldh {st : St} {b : Nat} {cs : List AV} (h : st.objs b = some (.cells cs)) (off n : Nat) (ag : Bool) : vload st (.ptr b off) n ag = grab cs off n ag := by simp [vload, h]
theorem e_ldi (st : St) (cs : List AV) (off n : Nat) (ag : Bool) : vload st (.iptr (.agg cs) off) n ag = grab cs off n ag := rfl
theorem e_ldn (st : St) (k : IntKind) (m : Int) (off n : Nat) (ag : Bool) : vload st (.iptr (.int k m) off) n ag = grab [.int k m] off n ag := rfl
theorem e_ldb (st : St) (m : Bool) (off n : Nat) (ag : Bool) : vload st (.iptr (.bool m) off) n ag = grab [.bool m] off n ag := rfl
theorem e_lds (st : St) (m : ByteArray) (off n : Nat) (ag : Bool) : vload st (.iptr (.str m) off) n ag = grab [.str m] off n ag := rfl
theorem e_ldl (st : St) (m : List AV) (t : Tok) (off n : Nat) (ag : Bool) : vload st (.iptr (.sl m t) off) n ag = grab [.sl m t] off n ag := rfl
theorem e_iad {α : Type} (f : α → AV) (xs : List α) (t : Tok) (q : IntKind) (i : Nat) {x : α} (h : xs[i]? = some x) {sz : Nat} (hl : (f x).cells.length = sz) (hp : 0 < sz) : viad sz (.sl (xs.map f) t) (.int q (i : Int)) = some (.iptr (f x) 0) := by
  simp [viad, h, hl, hp]
theorem e_iadk {α : Type} (f : α → AV) (xs : List α) (t : Tok) (q : IntKind) (i : Nat) (sz : Nat) (h : i < xs.length) (hl : (f xs[i]).cells.length = sz) (hp : 0 < sz) : viad sz (.sl (xs.map f) t) (.int q (i : Int)) = some (.iptr (f xs[i]) 0) :=
  e_iad f xs t q i (List.getElem?_eq_getElem h) hl hp
theorem e_iadk0 {α : Type} (f : α → AV) (xs : List α) (t : Tok) (q : IntKind) (sz : Nat) (h : 0 < xs.length) (hl : (f xs[0]).cells.length = sz) (hp : 0 < sz) : viad sz (.sl (xs.map f) t) (.int q 0) = some (.iptr (f xs[0]) 0) :=
  e_iad f xs t q 0 (List.getElem?_eq_getElem h) hl hp
theorem e_iad0 {x : AV} (xs : List AV) (t : Tok) (q : IntKind) {sz : Nat} (hl : x.cells.length = sz) (hp : 0 < sz) : viad sz (.sl (x :: xs) t) (.int q 0) = some (.iptr x 0) := by
  simp [viad, hl, hp]
theorem e_nchk (b o : Nat) : vnchk (.ptr b o) = some (.ptr b o) := rfl
end Go.Proofs.YtglekfgoadehbaaDoor.V
end
section
set_option linter.unusedSimpArgs false
set_option linter.unusedVariables false
/- The compiled functions of the package vec (printed by Print.lean of this work). -/
namespace Go.Proofs.YtglekfgoadehbaaDoor.V
open Go Go.Proofs
def v_vec_LE : VFn := ⟨.seq (.reg [⟨some 2, .box (.t 0), none, [], []⟩,
 ⟨some 3, .box (.t 1), none, [], []⟩,
 ⟨some 4, .mov (.c (.bool false)), none, [], []⟩])
(.seq (.reg [⟨some 8, .load 2 true (.t 2), none, [], []⟩,
 ⟨some 9, .load 2 true (.t 3), none, [], []⟩,
 ⟨some 10, .call 49 [(.t 8), (.t 9), (.c (.clo 50 [] []))], none, [0, 1], []⟩,
 ⟨some 7, .mov (.t 10), none, [2], []⟩,
 ⟨some 11, .ext (.t 7) 0, none, [3], []⟩,
 ⟨some 12, .ext (.t 7) 1, none, [3], []⟩,
 ⟨some 5, .mov (.t 11), none, [4, 2, 0, 1, 2, 3, 4], []⟩,
 ⟨some 6, .mov (.t 12), none, [5, 6, 0, 1, 2, 3, 4, 5, 6], []⟩])
(.seq (.reg [⟨some 13, .mov (.t 5), none, [], []⟩,
 ⟨some 14, .mov (.t 13), none, [0], []⟩,
 ⟨some 15, .mov (.t 6), some (14, true), [1], []⟩,
 ⟨some 16, .pick (.t 14) (.t 15) (.c (.bool false)), none, [1, 2], []⟩,
 ⟨some 4, .mov (.t 16), none, [3, 1, 0, 1, 2, 3], []⟩])
(.ret))),
[.t 4], 17⟩
theorem v_vec_LE_ok : compF Tryd.prog 27 = some v_vec_LE := by kernel_rfl
def v_vec_Units : VFn := ⟨.seq (.reg [⟨some 2, .box (.t 0), none, [], []⟩,
 ⟨some 3, .box (.t 1), none, [], []⟩,
 ⟨some 4, .mov (.c (.int .i64 0)), none, [], []⟩,
 ⟨some 5, .mov (.c (.int .i64 0)), none, [2], []⟩])
(.seq (.seq (.reg [⟨some 10, .build [(.int .i64 0), (.int .i64 0)] [(0, 1, (.c (.int .i64 1))), (1, 1, (.c (.int .i64 1)))], none, [], []⟩,
 ⟨some 11, .load 2 true (.t 3), none, [], []⟩,
 ⟨some 12, .call 27 [(.t 10), (.t 11)], none, [0, 1], []⟩,
 ⟨some 13, .un .not (.t 12), none, [2], []⟩])
(.cond (.t 13)
 (.seq (.reg [⟨some 4, .mov (.c (.int .i64 0)), none, [], []⟩,
 ⟨some 5, .mov (.c (.int .i64 2)), none, [0, 0], []⟩])
 (.ret))
 (.skip)))
(.seq (.seq (.reg [⟨some 15, .load 2 true (.t 2), none, [], []⟩,
 ⟨some 16, .load 2 true (.t 3), none, [], []⟩,
 ⟨some 17, .bsl 2 [(.t 15), (.t 16)], none, [0, 1], []⟩,
 ⟨some 18, .call 57 [(.t 17)], none, [2], []⟩,
 ⟨some 14, .mov (.t 18), none, [3], []⟩,
 ⟨some 19, .ext (.t 14) 0, none, [4], []⟩,
 ⟨some 20, .ext (.t 14) 1, none, [4], []⟩,
 ⟨some 6, .alloc [(.int .i64 0), (.int .i64 0)], none, [], []⟩,
 ⟨none, .store 2 (.t 6) (.t 19), none, [7, 5, 3, 0, 1, 2, 3, 4, 5, 7], []⟩,
 ⟨some 7, .mov (.t 20), none, [6, 8, 0, 1, 2, 3, 4, 5, 6, 7, 8], []⟩])
(.seq (.reg [⟨some 21, .mov (.t 7), none, [], []⟩,
 ⟨some 22, .bin .neq (.t 21) (.c (.int .i64 0)), none, [0], []⟩])
(.cond (.t 22)
 (.seq (.reg [⟨some 23, .mov (.t 7), none, [], []⟩,
 ⟨some 4, .mov (.c (.int .i64 0)), none, [], []⟩,
 ⟨some 5, .mov (.t 23), none, [0, 1, 0, 1], []⟩])
 (.ret))
 (.skip))))
(.seq (.reg [⟨some 25, .load 2 true (.t 2), none, [], []⟩,
 ⟨some 26, .load 2 true (.t 3), none, [], []⟩,
 ⟨some 27, .call 58 [(.t 25), (.t 26), (.c (.clo 59 [] []))], none, [0, 1], []⟩,
 ⟨some 24, .mov (.t 27), none, [2], []⟩,
 ⟨some 28, .ext (.t 24) 0, none, [3], []⟩,
 ⟨some 29, .ext (.t 24) 1, none, [3], []⟩,
 ⟨some 8, .mov (.t 28), none, [4, 2, 0, 1, 2, 3, 4], []⟩,
 ⟨some 9, .mov (.t 29), none, [5, 6, 0, 1, 2, 3, 4, 5, 6], []⟩])
(.seq (.reg [⟨some 30, .mov (.t 8), none, [], []⟩,
 ⟨some 31, .mov (.t 9), none, [], []⟩,
 ⟨some 32, .mnx true (.t 30) [(.t 31)], none, [0, 1], []⟩,
 ⟨some 4, .mov (.t 32), none, [2, 0, 1, 2], []⟩,
 ⟨some 5, .mov (.c (.int .i64 0)), none, [3, 0, 1, 2, 3], []⟩])
(.ret))))),
[.t 4, .t 5], 33⟩
theorem v_vec_Units_ok : compF Tryd.prog 35 = some v_vec_Units := by kernel_rfl
def v_vec_Max : VFn := ⟨.seq (.reg [⟨some 2, .box (.t 0), none, [], []⟩,
 ⟨some 3, .box (.t 1), none, [], []⟩,
 ⟨some 4, .alloc [(.int .i64 0), (.int .i64 0)], none, [], []⟩])
(.seq (.reg [⟨some 5, .load 2 true (.t 2), none, [], []⟩,
 ⟨some 6, .load 2 true (.t 3), none, [], []⟩,
 ⟨some 7, .call 64 [(.t 5), (.t 6), (.c (.clo 65 [] []))], none, [0, 1], []⟩,
 ⟨none, .store 2 (.t 4) (.t 7), none, [2, 2, 0, 1, 2], []⟩])
(.ret)),
[.c 4 2 true], 8⟩
theorem v_vec_Max_ok : compF Tryd.prog 38 = some v_vec_Max := by kernel_rfl
def v_vec_Min : VFn := ⟨.seq (.reg [⟨some 2, .box (.t 0), none, [], []⟩,
 ⟨some 3, .box (.t 1), none, [], []⟩,
 ⟨some 4, .alloc [(.int .i64 0), (.int .i64 0)], none, [], []⟩])
(.seq (.reg [⟨some 5, .load 2 true (.t 2), none, [], []⟩,
 ⟨some 6, .load 2 true (.t 3), none, [], []⟩,
 ⟨some 7, .call 64 [(.t 5), (.t 6), (.c (.clo 66 [] []))], none, [0, 1], []⟩,
 ⟨none, .store 2 (.t 4) (.t 7), none, [2, 2, 0, 1, 2], []⟩])
(.ret)),
[.c 4 2 true], 8⟩
theorem v_vec_Min_ok : compF Tryd.prog 39 = some v_vec_Min := by kernel_rfl
def v_vec_May : VFn := ⟨.seq (.reg [⟨some 1, .box (.t 0), none, [], []⟩,
 ⟨some 2, .mov (.c (.bool false)), none, [], []⟩])
(.seq (.reg [⟨some 3, .fad 0 (.t 1), none, [], []⟩,
 ⟨some 4, .load 1 false (.t 3), none, [0], []⟩,
 ⟨some 5, .fad 1 (.t 1), none, [], []⟩,
 ⟨some 6, .load 1 false (.t 5), none, [2], []⟩,
 ⟨some 7, .bsl 1 [(.t 4), (.t 6)], none, [1, 3], []⟩,
 ⟨some 8, .call 68 [(.t 7)], none, [4], []⟩,
 ⟨some 2, .mov (.t 8), none, [5, 5, 0, 1, 2, 3, 4, 5], []⟩])
(.ret)),
[.t 2], 9⟩
theorem v_vec_May_ok : compF Tryd.prog 43 = some v_vec_May := by kernel_rfl
def v_vec_both_bool : VFn := ⟨.seq (.reg [⟨some 3, .box (.t 0), none, [], []⟩,
 ⟨some 4, .box (.t 1), none, [], []⟩,
 ⟨some 6, .mov (.c (.bool false)), none, [], []⟩,
 ⟨some 7, .mov (.c (.bool false)), none, [2], []⟩])
(.seq (.dreg [⟨some 8, .mov (.t 2), none, [], []⟩,
 ⟨some 9, .fad 0 (.t 3), none, [], []⟩,
 ⟨some 10, .load 1 false (.t 9), none, [1], []⟩,
 ⟨some 11, .fad 0 (.t 4), none, [], []⟩,
 ⟨some 12, .load 1 false (.t 11), none, [3], []⟩,
 ⟨some 13, .callv (.t 8) [(.t 10), (.t 12)], none, [0, 2, 4], []⟩,
 ⟨some 14, .mov (.t 2), none, [], []⟩,
 ⟨some 15, .fad 1 (.t 3), none, [], []⟩,
 ⟨some 16, .load 1 false (.t 15), none, [7], []⟩,
 ⟨some 17, .fad 1 (.t 4), none, [], []⟩,
 ⟨some 18, .load 1 false (.t 17), none, [9], []⟩,
 ⟨some 19, .callv (.t 14) [(.t 16), (.t 18)], none, [6, 8, 10, 5], [(0, 0)]⟩,
 ⟨some 6, .mov (.t 13), none, [5, 11, 0, 1, 2, 3, 4, 5], []⟩,
 ⟨some 7, .mov (.t 19), none, [11, 12, 0, 1, 2, 3, 4, 5, 6, 7, 8, 9, 10, 11, 12], []⟩])
(.ret)),
[.t 6, .t 7], 20⟩
theorem v_vec_both_bool_ok : compF Tryd.prog 49 = some v_vec_both_bool := by kernel_rfl
def v_vec_LE_1 : VFn := ⟨.seq (.reg [⟨some 4, .mov (.c (.bool false)), none, [], []⟩])
(.seq (.reg [⟨some 5, .mov (.t 0), none, [], []⟩,
 ⟨some 6, .mov (.t 1), none, [], []⟩,
 ⟨some 7, .bin .leq (.t 5) (.t 6), none, [0, 1], []⟩,
 ⟨some 4, .mov (.t 7), none, [2, 0, 1, 2], []⟩])
(.ret)),
[.t 4], 8⟩
theorem v_vec_LE_1_ok : compF Tryd.prog 50 = some v_vec_LE_1 := by kernel_rfl
def v_vec_Add : VFn := ⟨.seq (.reg [⟨some 2, .alloc [(.int .i64 0), (.int .i64 0)], none, [], []⟩,
 ⟨some 3, .mov (.c (.int .i64 0)), none, [], []⟩])
(.seq (.reg [⟨some 4, .alloc [(.int .i64 0), (.int .i64 0)], none, [], []⟩])
(.seq (.seq (.reg [⟨some 9, .mov (.t 0), none, [], []⟩,
 ⟨some 10, .len (.t 9), none, [0], []⟩,
 ⟨some 11, .mov (.c (.int .i64 0)), none, [], []⟩])
(.block 0
 (.loop
 (.seq (.reg [⟨some 12, .bin .lss (.t 11) (.t 10), none, [], []⟩])
 (.seq (.cond (.t 12)
 (.skip)
 (.exit 0))
 (.seq (.block 1
 (.seq (.reg [⟨some 13, .iad 2 (.t 9) (.t 11), none, [], []⟩,
 ⟨some 14, .load 2 true (.t 13), none, [0], []⟩,
 ⟨some 6, .alloc [(.int .i64 0), (.int .i64 0)], none, [], []⟩,
 ⟨none, .store 2 (.t 6) (.t 14), none, [2, 1, 0, 1, 2], []⟩])
 (.seq (.dreg [⟨some 16, .load 2 true (.t 4), none, [], []⟩,
 ⟨some 17, .load 2 true (.t 6), none, [], []⟩,
 ⟨some 18, .call 64 [(.t 16), (.t 17), (.c (.clo 78 [] []))], none, [0, 1], []⟩,
 ⟨some 19, .load 2 true (.t 6), none, [], []⟩,
 ⟨some 20, .bsl 2 [(.t 18), (.t 19)], none, [2, 3], []⟩,
 ⟨some 21, .call 57 [(.t 20)], none, [4, 2], []⟩,
 ⟨some 15, .mov (.t 21), none, [5], []⟩,
 ⟨some 22, .ext (.t 15) 0, none, [6], []⟩,
 ⟨some 23, .ext (.t 15) 1, none, [6], []⟩,
 ⟨some 7, .alloc [(.int .i64 0), (.int .i64 0)], none, [], []⟩,
 ⟨none, .store 2 (.t 7) (.t 22), none, [9, 7, 5, 0, 1, 2, 3, 4, 5, 6, 7, 9], []⟩,
 ⟨some 8, .mov (.t 23), none, [8, 10, 0, 1, 2, 3, 4, 5, 6, 7, 8, 9, 10], []⟩])
 (.seq (.seq (.reg [⟨some 24, .mov (.t 8), none, [], []⟩,
 ⟨some 25, .bin .neq (.t 24) (.c (.int .i64 0)), none, [0], []⟩])
 (.cond (.t 25)
 (.seq (.reg [⟨some 26, .build [(.int .i64 0), (.int .i64 0)] [], none, [], []⟩,
 ⟨some 27, .mov (.t 8), none, [], []⟩,
 ⟨none, .store 2 (.t 2) (.t 26), none, [0, 0], []⟩,
 ⟨some 3, .mov (.t 27), none, [1, 2, 0, 1, 2], []⟩])
 (.ret))
 (.skip)))
 (.reg [⟨some 28, .load 2 true (.t 7), none, [], []⟩,
 ⟨none, .store 2 (.t 4) (.t 28), none, [0, 0], []⟩])))))
 (.reg [⟨some 29, .bin .add (.t 11) (.c (.int .i64 1)), none, [], []⟩,
 ⟨some 11, .mov (.t 29), none, [0], []⟩])))))))
(.seq (.reg [⟨some 30, .load 2 true (.t 4), none, [], []⟩,
 ⟨none, .store 2 (.t 2) (.t 30), none, [0, 0], []⟩,
 ⟨some 3, .mov (.c (.int .i64 0)), none, [1, 0, 1], []⟩])
(.ret)))),
[.c 2 2 true, .t 3], 31⟩
theorem v_vec_Add_ok : compF Tryd.prog 52 = some v_vec_Add := by kernel_rfl
def v_vec_told : VFn := ⟨.seq (.reg [⟨some 2, .alloc [(.int .i64 0), (.int .i64 0)], none, [], []⟩,
 ⟨some 3, .mov (.c (.int .i64 0)), none, [], []⟩])
(.seq (.seq (.reg [⟨some 6, .mov (.t 0), none, [], []⟩,
 ⟨some 7, .len (.t 6), none, [0], []⟩,
 ⟨some 8, .mov (.c (.int .i64 0)), none, [], []⟩])
(.block 0
 (.loop
 (.seq (.reg [⟨some 9, .bin .lss (.t 8) (.t 7), none, [], []⟩])
 (.seq (.cond (.t 9)
 (.skip)
 (.exit 0))
 (.seq (.block 1
 (.seq (.reg [⟨some 10, .iad 2 (.t 6) (.t 8), none, [], []⟩,
 ⟨some 11, .load 2 true (.t 10), none, [0], []⟩,
 ⟨some 5, .alloc [(.int .i64 0), (.int .i64 0)], none, [], []⟩,
 ⟨none, .store 2 (.t 5) (.t 11), none, [2, 1, 0, 1, 2], []⟩])
 (.seq (.reg [⟨some 12, .load 2 true (.t 5), none, [], []⟩,
 ⟨some 13, .call 43 [(.t 12)], none, [0], []⟩,
 ⟨some 14, .un .not (.t 13), none, [1], []⟩])
 (.cond (.t 14)
 (.seq (.reg [⟨some 15, .build [(.int .i64 0), (.int .i64 0)] [], none, [], []⟩,
 ⟨none, .store 2 (.t 2) (.t 15), none, [0, 0], []⟩,
 ⟨some 3, .mov (.c (.int .i64 10)), none, [1, 0, 1], []⟩])
 (.ret))
 (.skip)))))
 (.reg [⟨some 16, .bin .add (.t 8) (.c (.int .i64 1)), none, [], []⟩,
 ⟨some 8, .mov (.t 16), none, [0], []⟩])))))))
(.seq (.reg [⟨some 17, .mov (.t 0), none, [], []⟩,
 ⟨some 18, .iad 2 (.t 17) (.c (.int .i64 0)), none, [0], []⟩,
 ⟨some 19, .load 2 true (.t 18), none, [1], []⟩,
 ⟨none, .store 2 (.t 2) (.t 19), none, [2, 0, 1, 2], []⟩,
 ⟨some 3, .mov (.c (.int .i64 0)), none, [3, 0, 1, 2, 3], []⟩])
(.ret))),
[.c 2 2 true, .t 3], 20⟩
theorem v_vec_told_ok : compF Tryd.prog 57 = some v_vec_told := by kernel_rfl
def v_vec_both_int64 : VFn := ⟨.seq (.reg [⟨some 3, .box (.t 0), none, [], []⟩,
 ⟨some 4, .box (.t 1), none, [], []⟩,
 ⟨some 6, .mov (.c (.int .i64 0)), none, [], []⟩,
 ⟨some 7, .mov (.c (.int .i64 0)), none, [2], []⟩])
(.seq (.dreg [⟨some 8, .mov (.t 2), none, [], []⟩,
 ⟨some 9, .fad 0 (.t 3), none, [], []⟩,
 ⟨some 10, .load 1 false (.t 9), none, [1], []⟩,
 ⟨some 11, .fad 0 (.t 4), none, [], []⟩,
 ⟨some 12, .load 1 false (.t 11), none, [3], []⟩,
 ⟨some 13, .callv (.t 8) [(.t 10), (.t 12)], none, [0, 2, 4], []⟩,
 ⟨some 14, .mov (.t 2), none, [], []⟩,
 ⟨some 15, .fad 1 (.t 3), none, [], []⟩,
 ⟨some 16, .load 1 false (.t 15), none, [7], []⟩,
 ⟨some 17, .fad 1 (.t 4), none, [], []⟩,
 ⟨some 18, .load 1 false (.t 17), none, [9], []⟩,
 ⟨some 19, .callv (.t 14) [(.t 16), (.t 18)], none, [6, 8, 10, 5], [(0, 0)]⟩,
 ⟨some 6, .mov (.t 13), none, [5, 11, 0, 1, 2, 3, 4, 5], []⟩,
 ⟨some 7, .mov (.t 19), none, [11, 12, 0, 1, 2, 3, 4, 5, 6, 7, 8, 9, 10, 11, 12], []⟩])
(.ret)),
[.t 6, .t 7], 20⟩
theorem v_vec_both_int64_ok : compF Tryd.prog 58 = some v_vec_both_int64 := by kernel_rfl
def v_vec_Units_1 : VFn := ⟨.seq (.reg [⟨some 4, .mov (.c (.int .i64 0)), none, [], []⟩])
(.seq (.seq (.reg [⟨some 5, .mov (.t 0), none, [], []⟩,
 ⟨some 6, .bin .lss (.t 5) (.c (.int .i64 0)), none, [0], []⟩])
(.cond (.t 6)
 (.seq (.reg [⟨some 4, .mov (.c (.int .i64 0)), none, [], []⟩])
 (.ret))
 (.skip)))
(.seq (.reg [⟨some 7, .mov (.t 0), none, [], []⟩,
 ⟨some 8, .mov (.t 1), none, [], []⟩,
 ⟨some 9, .bin .quo (.t 7) (.t 8), none, [0, 1], []⟩,
 ⟨some 4, .mov (.t 9), none, [2, 0, 1, 2], []⟩])
(.ret))),
[.t 4], 10⟩
theorem v_vec_Units_1_ok : compF Tryd.prog 59 = some v_vec_Units_1 := by kernel_rfl
def v_vec_made : VFn := ⟨.seq (.reg [⟨some 3, .box (.t 0), none, [], []⟩,
 ⟨some 4, .box (.t 1), none, [], []⟩,
 ⟨some 6, .alloc [(.int .i64 0), (.int .i64 0)], none, [], []⟩])
(.seq (.reg [⟨some 10, .load 2 true (.t 3), none, [], []⟩,
 ⟨some 11, .load 2 true (.t 4), none, [], []⟩,
 ⟨some 12, .mov (.t 2), none, [], []⟩,
 ⟨some 13, .call 58 [(.t 10), (.t 11), (.t 12)], none, [0, 1, 2], []⟩,
 ⟨some 9, .mov (.t 13), none, [3], []⟩,
 ⟨some 14, .ext (.t 9) 0, none, [4], []⟩,
 ⟨some 15, .ext (.t 9) 1, none, [4], []⟩,
 ⟨some 7, .mov (.t 14), none, [5, 3, 0, 1, 2, 3, 4, 5], []⟩,
 ⟨some 8, .mov (.t 15), none, [6, 7, 0, 1, 2, 3, 4, 5, 6, 7], []⟩])
(.seq (.reg [⟨some 16, .mov (.t 7), none, [], []⟩,
 ⟨some 17, .mov (.t 8), none, [], []⟩,
 ⟨some 18, .build [(.int .i64 0), (.int .i64 0)] [(0, 1, (.t 16)), (1, 1, (.t 17))], none, [0, 1], []⟩,
 ⟨none, .store 2 (.t 6) (.t 18), none, [2, 0, 1, 2], []⟩])
(.ret))),
[.c 6 2 true], 19⟩
theorem v_vec_made_ok : compF Tryd.prog 64 = some v_vec_made := by kernel_rfl
def v_vec_Max_1 : VFn := ⟨.seq (.reg [⟨some 4, .mov (.c (.int .i64 0)), none, [], []⟩])
(.seq (.reg [⟨some 5, .mov (.t 0), none, [], []⟩,
 ⟨some 6, .mov (.t 1), none, [], []⟩,
 ⟨some 7, .mnx false (.t 5) [(.t 6)], none, [0, 1], []⟩,
 ⟨some 4, .mov (.t 7), none, [2, 0, 1, 2], []⟩])
(.ret)),
[.t 4], 8⟩
theorem v_vec_Max_1_ok : compF Tryd.prog 65 = some v_vec_Max_1 := by kernel_rfl
def v_vec_Min_1 : VFn := ⟨.seq (.reg [⟨some 4, .mov (.c (.int .i64 0)), none, [], []⟩])
(.seq (.reg [⟨some 5, .mov (.t 0), none, [], []⟩,
 ⟨some 6, .mov (.t 1), none, [], []⟩,
 ⟨some 7, .mnx true (.t 5) [(.t 6)], none, [0, 1], []⟩,
 ⟨some 4, .mov (.t 7), none, [2, 0, 1, 2], []⟩])
(.ret)),
[.t 4], 8⟩
theorem v_vec_Min_1_ok : compF Tryd.prog 66 = some v_vec_Min_1 := by kernel_rfl
def v_vec_fits_int64 : VFn := ⟨.seq (.reg [⟨some 2, .mov (.c (.bool false)), none, [], []⟩])
(.seq (.seq (.reg [⟨some 5, .mov (.t 0), none, [], []⟩,
 ⟨some 6, .len (.t 5), none, [0], []⟩,
 ⟨some 7, .mov (.c (.int .i64 0)), none, [], []⟩])
(.block 0
 (.loop
 (.seq (.reg [⟨some 8, .bin .lss (.t 7) (.t 6), none, [], []⟩])
 (.seq (.cond (.t 8)
 (.skip)
 (.exit 0))
 (.seq (.block 1
 (.seq (.reg [⟨some 9, .iad 1 (.t 5) (.t 7), none, [], []⟩,
 ⟨some 10, .load 1 false (.t 9), none, [0], []⟩,
 ⟨some 4, .mov (.t 10), none, [1, 0, 1], []⟩])
 (.seq (.reg [⟨some 11, .mov (.t 4), none, [], []⟩,
 ⟨some 12, .bin .lss (.t 11) (.c (.int .i64 (-1125899906842624))), none, [0], []⟩,
 ⟨some 13, .mov (.t 12), none, [1], []⟩,
 ⟨some 14, .mov (.t 4), some (13, false), [2], []⟩,
 ⟨some 15, .bin .gtr (.t 14) (.c (.int .i64 1125899906842624)), some (13, false), [3, 2], []⟩,
 ⟨some 16, .pick (.t 13) (.c (.bool true)) (.t 15), none, [2, 4], []⟩])
 (.cond (.t 16)
 (.seq (.reg [⟨some 2, .mov (.c (.bool false)), none, [], []⟩])
 (.ret))
 (.skip)))))
 (.reg [⟨some 17, .bin .add (.t 7) (.c (.int .i64 1)), none, [], []⟩,
 ⟨some 7, .mov (.t 17), none, [0], []⟩])))))))
(.seq (.reg [⟨some 2, .mov (.c (.bool true)), none, [], []⟩])
(.ret))),
[.t 2], 18⟩
theorem v_vec_fits_int64_ok : compF Tryd.prog 68 = some v_vec_fits_int64 := by kernel_rfl
def v_vec_Add_1 : VFn := ⟨.seq (.reg [⟨some 4, .mov (.c (.int .i64 0)), none, [], []⟩])
(.seq (.reg [⟨some 5, .mov (.t 0), none, [], []⟩,
 ⟨some 6, .mov (.t 1), none, [], []⟩,
 ⟨some 7, .bin .add (.t 5) (.t 6), none, [0, 1], []⟩,
 ⟨some 4, .mov (.t 7), none, [2, 0, 1, 2], []⟩])
(.ret)),
[.t 4], 8⟩
theorem v_vec_Add_1_ok : compF Tryd.prog 78 = some v_vec_Add_1 := by kernel_rfl
def v_vec_Sub : VFn := ⟨.seq (.reg [⟨some 2, .box (.t 0), none, [], []⟩,
 ⟨some 3, .box (.t 1), none, [], []⟩,
 ⟨some 4, .alloc [(.int .i64 0), (.int .i64 0)], none, [], []⟩,
 ⟨some 5, .mov (.c (.int .i64 0)), none, [], []⟩])
(.seq (.dreg [⟨some 6, .load 2 true (.t 2), none, [], []⟩,
 ⟨some 7, .load 2 true (.t 3), none, [], []⟩,
 ⟨some 8, .call 64 [(.t 6), (.t 7), (.c (.clo 98 [] []))], none, [0, 1], []⟩,
 ⟨some 9, .load 2 true (.t 2), none, [], []⟩,
 ⟨some 10, .load 2 true (.t 3), none, [], []⟩,
 ⟨some 11, .bsl 2 [(.t 8), (.t 9), (.t 10)], none, [2, 3, 4], []⟩,
 ⟨some 12, .call 57 [(.t 11)], none, [5, 2], [(0, 0)]⟩,
 ⟨some 13, .ext (.t 12) 0, none, [6], []⟩,
 ⟨some 14, .ext (.t 12) 1, none, [6], []⟩,
 ⟨none, .store 2 (.t 4) (.t 13), none, [7, 6, 0, 1, 2, 3, 4, 5, 6, 7, 8], []⟩,
 ⟨some 5, .mov (.t 14), none, [8, 9, 0, 1, 2, 3, 4, 5, 6, 7, 8, 9], []⟩])
(.ret)),
[.c 4 2 true, .t 5], 15⟩
theorem v_vec_Sub_ok : compF Tryd.prog 93 = some v_vec_Sub := by kernel_rfl
def v_vec_Sub_1 : VFn := ⟨.seq (.reg [⟨some 4, .mov (.c (.int .i64 0)), none, [], []⟩])
(.seq (.reg [⟨some 5, .mov (.t 0), none, [], []⟩,
 ⟨some 6, .mov (.t 1), none, [], []⟩,
 ⟨some 7, .bin .sub (.t 5) (.t 6), none, [0, 1], []⟩,
 ⟨some 4, .mov (.t 7), none, [2, 0, 1, 2], []⟩])
(.ret)),
[.t 4], 8⟩
theorem v_vec_Sub_1_ok : compF Tryd.prog 98 = some v_vec_Sub_1 := by kernel_rfl
end Go.Proofs.YtglekfgoadehbaaDoor.V
end
section
set_option linter.unusedSimpArgs false
set_option linter.unusedVariables false
/- The compiled functions of the package liveryref01 (printed by Print.lean of this work). -/
namespace Go.Proofs.YtglekfgoadehbaaDoor.V
open Go Go.Proofs
def v_liveryref01_LE : VFn := ⟨.seq (.reg [⟨some 2, .box (.t 0), none, [], []⟩,
 ⟨some 3, .box (.t 1), none, [], []⟩,
 ⟨some 4, .mov (.c (.bool false)), none, [], []⟩])
(.seq (.reg [⟨some 5, .fad 0 (.t 2), none, [], []⟩,
 ⟨some 6, .load 1 false (.t 5), none, [0], []⟩,
 ⟨some 7, .fad 0 (.t 3), none, [], []⟩,
 ⟨some 8, .load 1 false (.t 7), none, [2], []⟩,
 ⟨some 9, .bin .leq (.t 6) (.t 8), none, [1, 3], []⟩,
 ⟨some 10, .mov (.t 9), none, [4], []⟩,
 ⟨some 11, .fad 1 (.t 2), some (10, true), [5], []⟩,
 ⟨some 12, .load 1 false (.t 11), some (10, true), [6, 5], []⟩,
 ⟨some 13, .fad 1 (.t 3), some (10, true), [5], []⟩,
 ⟨some 14, .load 1 false (.t 13), some (10, true), [8, 5], []⟩,
 ⟨some 15, .bin .leq (.t 12) (.t 14), some (10, true), [7, 9, 5], []⟩,
 ⟨some 16, .pick (.t 10) (.t 15) (.c (.bool false)), none, [5, 10], []⟩,
 ⟨some 4, .mov (.t 16), none, [11, 5, 0, 1, 2, 3, 4, 5, 6, 7, 8, 9, 10, 11], []⟩])
(.ret)),
[.t 4], 17⟩
theorem v_liveryref01_LE_ok : compF Tryd.prog 12 = some v_liveryref01_LE := by kernel_rfl
def v_liveryref01_May : VFn := ⟨.seq (.reg [⟨some 1, .box (.t 0), none, [], []⟩,
 ⟨some 2, .mov (.c (.bool false)), none, [], []⟩])
(.seq (.reg [⟨some 3, .fad 0 (.t 1), none, [], []⟩,
 ⟨some 4, .load 1 false (.t 3), none, [0], []⟩,
 ⟨some 5, .bin .geq (.t 4) (.c (.int .i64 (-1125899906842624))), none, [1], []⟩,
 ⟨some 6, .mov (.t 5), none, [2], []⟩,
 ⟨some 7, .fad 0 (.t 1), some (6, true), [3], []⟩,
 ⟨some 8, .load 1 false (.t 7), some (6, true), [4, 3], []⟩,
 ⟨some 9, .bin .leq (.t 8) (.c (.int .i64 1125899906842624)), some (6, true), [5, 3], []⟩,
 ⟨some 10, .pick (.t 6) (.t 9) (.c (.bool false)), none, [3, 6], []⟩,
 ⟨some 11, .mov (.t 10), none, [7, 3], []⟩,
 ⟨some 12, .fad 1 (.t 1), some (11, true), [8], []⟩,
 ⟨some 13, .load 1 false (.t 12), some (11, true), [9, 8], []⟩,
 ⟨some 14, .bin .geq (.t 13) (.c (.int .i64 (-1125899906842624))), some (11, true), [10, 8], []⟩,
 ⟨some 15, .pick (.t 11) (.t 14) (.c (.bool false)), none, [8, 11], []⟩,
 ⟨some 16, .mov (.t 15), none, [12, 8], []⟩,
 ⟨some 17, .fad 1 (.t 1), some (16, true), [13], []⟩,
 ⟨some 18, .load 1 false (.t 17), some (16, true), [14, 13], []⟩,
 ⟨some 19, .bin .leq (.t 18) (.c (.int .i64 1125899906842624)), some (16, true), [15, 13], []⟩,
 ⟨some 20, .pick (.t 16) (.t 19) (.c (.bool false)), none, [13, 16], []⟩,
 ⟨some 2, .mov (.t 20), none, [17, 13, 0, 1, 2, 3, 4, 5, 6, 7, 8, 9, 10, 11, 12, 13, 14, 15, 16, 17], []⟩])
(.ret)),
[.t 2], 21⟩
theorem v_liveryref01_May_ok : compF Tryd.prog 92 = some v_liveryref01_May := by kernel_rfl
end Go.Proofs.YtglekfgoadehbaaDoor.V
end
section
set_option linter.unusedSimpArgs false
set_option linter.unusedVariables false
/- Rules by which a walk is reckoned from its head on: what comes later is not looked at before its turn. -/
namespace Go.Proofs.YtglekfgoadehbaaDoor.V
open Go Go.RowKit
variable {P : Program} {Z : Im}
inductive Tag {α : Sort _} (a : α) : Type where
  | mk
def optH (x : Option AV) (K : AV → Prop) (_ : Tag K) : Prop := optK x K
def guardH (c : AV) (w : Bool) (A B : Prop) (_ : Tag A) (_ : Tag B) : Prop := guardQ c w A B
def condH (c : AV) (A B : Prop) (_ : Tag A) (_ : Tag B) : Prop := condQ c A B
def callH (P : Program) (Z : Im) (f : Nat) (args : List AV) (st : St) (K : AV → St → Prop) (_ : Tag K) : Prop := VCalls P Z f args st K
def yieldH (P : Program) (Z : Im) (l : Nat) (args : List AV) (st : St) (K : AV → St → Prop) (_ : Tag K) : Prop := VYield P Z l args st K
def pureQ (P : Program) (f : Nat) (args : List AV) (st : St) (K : AV → Prop) (_ : Tag K) : Prop := ∃ v, VPureM P f args v (mOf st) ∧ K v
def objQ (st : St) (p : Nat → Prop) (_ : Tag p) : Prop := ∀ b, st.objs b = none → p b
def boxK (v : AV) (st : St) (K : AV → St → Prop) (_ : Tag K) : Prop := 0 < v.cells.length ∧ objQ st (fun b => K (.ptr b 0) (st.ins b (.cells v.cells))) .mk
def stK (o : Option AObj) (b off : Nat) (v : AV) (n : Nat) (st : St) (K : AV → St → Prop) (_ : Tag K) : Prop := match o with
  | some (.cells cs) => v.cells.length = n ∧ 0 < n ∧ off + n ≤ cs.length ∧ v.cells.all AV.isCell = true ∧ K .no (st.ins b (.cells (cs.take off ++ v.cells ++ cs.drop (off + n))))
  | _ => False
def storeK (x v : AV) (n : Nat) (st : St) (K : AV → St → Prop) (_ : Tag K) : Prop := match x with
  | .ptr b off => stK (st.objs b) b off v n st K .mk
  | _ => False
def freshQ (st : St) (sz : Nat) (p : Tok → Prop) (_ : Tag p) : Prop := ∀ t', st.fresh sz t' → p t'
def appK (s x : AV) (sz bytes : Nat) (st : St) (K : AV → St → Prop) (_ : Tag K) : Prop := appA s x sz bytes st K ∨ appB s x sz bytes st K
def appD (s x : AV) (sz bytes : Nat) (st : St) (K : AV → St → Prop) (_ : Tag K) : Prop := appA s x sz bytes st K
def cvK (P : Program) (Z : Im) (g : AV) (args : List AV) (st : St) (K : AV → St → Prop) (_ : Tag K) : Prop := match g with
  | .clo f fs cs => callH P Z f (fs ++ args ++ cs) st K .mk
  | .yld l => yieldH P Z l args st K .mk
  | _ => False
def cvD (P : Program) (g : AV) (args : List AV) (st : St) (K : AV → Prop) (_ : Tag K) : Prop := match g with
  | .clo f fs cs => pureQ P f (fs ++ args ++ cs) st K .mk
  | _ => False
def nilQ (xs : List AV) (p : Bool → Prop) (_ : Tag p) : Prop := ∀ b : Bool, (xs ≠ [] → b = false) → p b
def nilK (x : AV) (neg : Bool) (K : AV → Prop) (_ : Tag K) : Prop := match x with
  | .sl xs _ => nilQ xs (fun b => K (.bool (if neg then !b else b))) .mk
  | _ => False
def slcOk (g : Bool) (x : AV) (sz : Nat) : Prop := g = true → match x with | .sl xs _ => 0 < sz ∧ ∀ y ∈ xs, y.cells.length = sz | .osl _ _ _ => True | _ => False
theorem s_mov (x : VE) (K : AV → St → Prop) (fr : Fr) (st : St) : vstep P Z (.mov x) fr st K = optH (some (x.ev fr)) (fun v => K v st) .mk := rfl
theorem sD_mov (x : VE) (K : AV → St → Prop) (fr : Fr) (st : St) : vstepD P Z (.mov x) fr st K = optH (some (x.ev fr)) (fun v => K v st) .mk := rfl
theorem s_pick (c a b : VE) (K : AV → St → Prop) (fr : Fr) (st : St) : vstep P Z (.pick c a b) fr st K = optH (vpick (c.ev fr) (a.ev fr) (b.ev fr)) (fun v => K v st) .mk := rfl
theorem sD_pick (c a b : VE) (K : AV → St → Prop) (fr : Fr) (st : St) : vstepD P Z (.pick c a b) fr st K = optH (vpick (c.ev fr) (a.ev fr) (b.ev fr)) (fun v => K v st) .mk := rfl
theorem s_build (z : List AV) (ps : List (Nat × Nat × VE)) (K : AV → St → Prop) (fr : Fr) (st : St) : vstep P Z (.build z ps) fr st K = optH ((vfill z (ps.map fun (o, n, x) => (o, n, x.ev fr))).map .agg) (fun v => K v st) .mk := rfl
theorem sD_build (z : List AV) (ps : List (Nat × Nat × VE)) (K : AV → St → Prop) (fr : Fr) (st : St) : vstepD P Z (.build z ps) fr st K = optH ((vfill z (ps.map fun (o, n, x) => (o, n, x.ev fr))).map .agg) (fun v => K v st) .mk := rfl
theorem s_bsl (sz : Nat) (xs : List VE) (K : AV → St → Prop) (fr : Fr) (st : St) : vstep P Z (.bsl sz xs) fr st K = optH (vbsl sz (VE.evs fr xs)) (fun v => K v st) .mk := rfl
theorem sD_bsl (sz : Nat) (xs : List VE) (K : AV → St → Prop) (fr : Fr) (st : St) : vstepD P Z (.bsl sz xs) fr st K = optH (vbsl sz (VE.evs fr xs)) (fun v => K v st) .mk := rfl
theorem s_load (n : Nat) (ag : Bool) (x : VE) (K : AV → St → Prop) (fr : Fr) (st : St) : vstep P Z (.load n ag x) fr st K = optH (vload st (x.ev fr) n ag) (fun v => K v st) .mk := rfl
theorem sD_load (n : Nat) (ag : Bool) (x : VE) (K : AV → St → Prop) (fr : Fr) (st : St) : vstepD P Z (.load n ag x) fr st K = optH (vload st (x.ev fr) n ag) (fun v => K v st) .mk := rfl
theorem s_nchk (x : VE) (K : AV → St → Prop) (fr : Fr) (st : St) : vstep P Z (.nchk x) fr st K = optH (vnchk (x.ev fr)) (fun v => K v st) .mk := rfl
theorem sD_nchk (x : VE) (K : AV → St → Prop) (fr : Fr) (st : St) : vstepD P Z (.nchk x) fr st K = optH (vnchk (x.ev fr)) (fun v => K v st) .mk := rfl
theorem s_bin (op : BinOp) (x y : VE) (K : AV → St → Prop) (fr : Fr) (st : St) : vstep P Z (.bin op x y) fr st K = optH (vbin op (x.ev fr) (y.ev fr)) (fun v => K v st) .mk := rfl
theorem sD_bin (op : BinOp) (x y : VE) (K : AV → St → Prop) (fr : Fr) (st : St) : vstepD P Z (.bin op x y) fr st K = optH (vbin op (x.ev fr) (y.ev fr)) (fun v => K v st) .mk := rfl
theorem s_eqs (neg : Bool) (ks : List Nat) (x y : VE) (K : AV → St → Prop) (fr : Fr) (st : St) : vstep P Z (.eqs neg ks x y) fr st K = optH (veqs neg ks (x.ev fr) (y.ev fr)) (fun v => K v st) .mk := rfl
theorem sD_eqs (neg : Bool) (ks : List Nat) (x y : VE) (K : AV → St → Prop) (fr : Fr) (st : St) : vstepD P Z (.eqs neg ks x y) fr st K = optH (veqs neg ks (x.ev fr) (y.ev fr)) (fun v => K v st) .mk := rfl
theorem s_eqs1 (neg : Bool) (x y : VE) (K : AV → St → Prop) (fr : Fr) (st : St) : vstep P Z (.eqs1 neg x y) fr st K = optH (veqs1 neg (x.ev fr) (y.ev fr)) (fun v => K v st) .mk := rfl
theorem sD_eqs1 (neg : Bool) (x y : VE) (K : AV → St → Prop) (fr : Fr) (st : St) : vstepD P Z (.eqs1 neg x y) fr st K = optH (veqs1 neg (x.ev fr) (y.ev fr)) (fun v => K v st) .mk := rfl
theorem s_un (op : UnOp) (x : VE) (K : AV → St → Prop) (fr : Fr) (st : St) : vstep P Z (.un op x) fr st K = optH (vun op (x.ev fr)) (fun v => K v st) .mk := rfl
theorem sD_un (op : UnOp) (x : VE) (K : AV → St → Prop) (fr : Fr) (st : St) : vstepD P Z (.un op x) fr st K = optH (vun op (x.ev fr)) (fun v => K v st) .mk := rfl
theorem s_conv (k : IntKind) (x : VE) (K : AV → St → Prop) (fr : Fr) (st : St) : vstep P Z (.conv k x) fr st K = optH (vconv k (x.ev fr)) (fun v => K v st) .mk := rfl
theorem sD_conv (k : IntKind) (x : VE) (K : AV → St → Prop) (fr : Fr) (st : St) : vstepD P Z (.conv k x) fr st K = optH (vconv k (x.ev fr)) (fun v => K v st) .mk := rfl
theorem s_mkf (f : Nat) (fs cs : List VE) (K : AV → St → Prop) (fr : Fr) (st : St) : vstep P Z (.mkf f fs cs) fr st K = optH (some (.clo f (VE.evs fr fs) (VE.evs fr cs))) (fun v => K v st) .mk := rfl
theorem sD_mkf (f : Nat) (fs cs : List VE) (K : AV → St → Prop) (fr : Fr) (st : St) : vstepD P Z (.mkf f fs cs) fr st K = optH (some (.clo f (VE.evs fr fs) (VE.evs fr cs))) (fun v => K v st) .mk := rfl
theorem s_fad (off : Nat) (x : VE) (K : AV → St → Prop) (fr : Fr) (st : St) : vstep P Z (.fad off x) fr st K = optH (vfad off (x.ev fr)) (fun v => K v st) .mk := rfl
theorem sD_fad (off : Nat) (x : VE) (K : AV → St → Prop) (fr : Fr) (st : St) : vstepD P Z (.fad off x) fr st K = optH (vfad off (x.ev fr)) (fun v => K v st) .mk := rfl
theorem s_fld (off n : Nat) (ag : Bool) (x : VE) (K : AV → St → Prop) (fr : Fr) (st : St) : vstep P Z (.fld off n ag x) fr st K = optH (vfld off n ag (x.ev fr)) (fun v => K v st) .mk := rfl
theorem sD_fld (off n : Nat) (ag : Bool) (x : VE) (K : AV → St → Prop) (fr : Fr) (st : St) : vstepD P Z (.fld off n ag x) fr st K = optH (vfld off n ag (x.ev fr)) (fun v => K v st) .mk := rfl
theorem s_iad (sz : Nat) (x i : VE) (K : AV → St → Prop) (fr : Fr) (st : St) : vstep P Z (.iad sz x i) fr st K = optH (viad sz (x.ev fr) (i.ev fr)) (fun v => K v st) .mk := rfl
theorem sD_iad (sz : Nat) (x i : VE) (K : AV → St → Prop) (fr : Fr) (st : St) : vstepD P Z (.iad sz x i) fr st K = optH (viad sz (x.ev fr) (i.ev fr)) (fun v => K v st) .mk := rfl
theorem s_iaa (len sz : Nat) (x i : VE) (K : AV → St → Prop) (fr : Fr) (st : St) : vstep P Z (.iaa len sz x i) fr st K = optH (viaa len sz (x.ev fr) (i.ev fr)) (fun v => K v st) .mk := rfl
theorem sD_iaa (len sz : Nat) (x i : VE) (K : AV → St → Prop) (fr : Fr) (st : St) : vstepD P Z (.iaa len sz x i) fr st K = optH (viaa len sz (x.ev fr) (i.ev fr)) (fun v => K v st) .mk := rfl
theorem s_ixa (len sz : Nat) (ag : Bool) (x i : VE) (K : AV → St → Prop) (fr : Fr) (st : St) : vstep P Z (.ixa len sz ag x i) fr st K = optH (vixa len sz ag (x.ev fr) (i.ev fr)) (fun v => K v st) .mk := rfl
theorem sD_ixa (len sz : Nat) (ag : Bool) (x i : VE) (K : AV → St → Prop) (fr : Fr) (st : St) : vstepD P Z (.ixa len sz ag x i) fr st K = optH (vixa len sz ag (x.ev fr) (i.ev fr)) (fun v => K v st) .mk := rfl
theorem s_ixs (x i : VE) (K : AV → St → Prop) (fr : Fr) (st : St) : vstep P Z (.ixs x i) fr st K = optH (vixs (x.ev fr) (i.ev fr)) (fun v => K v st) .mk := rfl
theorem sD_ixs (x i : VE) (K : AV → St → Prop) (fr : Fr) (st : St) : vstepD P Z (.ixs x i) fr st K = optH (vixs (x.ev fr) (i.ev fr)) (fun v => K v st) .mk := rfl
theorem s_ext (x : VE) (i : Nat) (K : AV → St → Prop) (fr : Fr) (st : St) : vstep P Z (.ext x i) fr st K = optH (vext (x.ev fr) i) (fun v => K v st) .mk := rfl
theorem sD_ext (x : VE) (i : Nat) (K : AV → St → Prop) (fr : Fr) (st : St) : vstepD P Z (.ext x i) fr st K = optH (vext (x.ev fr) i) (fun v => K v st) .mk := rfl
theorem s_len (x : VE) (K : AV → St → Prop) (fr : Fr) (st : St) : vstep P Z (.len x) fr st K = optH (vlen (x.ev fr)) (fun v => K v st) .mk := rfl
theorem sD_len (x : VE) (K : AV → St → Prop) (fr : Fr) (st : St) : vstepD P Z (.len x) fr st K = optH (vlen (x.ev fr)) (fun v => K v st) .mk := rfl
theorem s_lens (x : VE) (K : AV → St → Prop) (fr : Fr) (st : St) : vstep P Z (.lens x) fr st K = optH (vlens (x.ev fr)) (fun v => K v st) .mk := rfl
theorem sD_lens (x : VE) (K : AV → St → Prop) (fr : Fr) (st : St) : vstepD P Z (.lens x) fr st K = optH (vlens (x.ev fr)) (fun v => K v st) .mk := rfl
theorem s_mnx (mn : Bool) (x : VE) (xs : List VE) (K : AV → St → Prop) (fr : Fr) (st : St) : vstep P Z (.mnx mn x xs) fr st K = optH (vmnx mn (x.ev fr) (VE.evs fr xs)) (fun v => K v st) .mk := rfl
theorem sD_mnx (mn : Bool) (x : VE) (xs : List VE) (K : AV → St → Prop) (fr : Fr) (st : St) : vstepD P Z (.mnx mn x xs) fr st K = optH (vmnx mn (x.ev fr) (VE.evs fr xs)) (fun v => K v st) .mk := rfl
theorem s_slc (sz : Nat) (x : VE) (lo hi mx : Option VE) (K : AV → St → Prop) (fr : Fr) (st : St) : vstep P Z (.slc sz x lo hi mx) fr st K = (slcOk lo.isSome (x.ev fr) sz ∧ optH (vslx sz (x.ev fr) (lo.map (·.ev fr)) (hi.map (·.ev fr)) (mx.map (·.ev fr))) (fun v => K v st) .mk) := rfl
theorem sD_slc (sz : Nat) (x : VE) (lo hi mx : Option VE) (K : AV → St → Prop) (fr : Fr) (st : St) : vstepD P Z (.slc sz x lo hi mx) fr st K = (slcOk lo.isSome (x.ev fr) sz ∧ optH (vslx sz (x.ev fr) (lo.map (·.ev fr)) (hi.map (·.ev fr)) (mx.map (·.ev fr))) (fun v => K v st) .mk) := rfl
theorem s_box (x : VE) (K : AV → St → Prop) (fr : Fr) (st : St) : vstep P Z (.box x) fr st K = boxK (x.ev fr) st K .mk := rfl
theorem sD_box (x : VE) (K : AV → St → Prop) (fr : Fr) (st : St) : vstepD P Z (.box x) fr st K = boxK (x.ev fr) st K .mk := rfl
theorem s_alloc (cs : List AV) (K : AV → St → Prop) (fr : Fr) (st : St) : vstep P Z (.alloc cs) fr st K = objQ st (fun b => K (.ptr b 0) (st.ins b (.cells cs))) .mk := rfl
theorem sD_alloc (cs : List AV) (K : AV → St → Prop) (fr : Fr) (st : St) : vstepD P Z (.alloc cs) fr st K = objQ st (fun b => K (.ptr b 0) (st.ins b (.cells cs))) .mk := rfl
theorem s_store (n : Nat) (x v : VE) (K : AV → St → Prop) (fr : Fr) (st : St) : vstep P Z (.store n x v) fr st K = storeK (x.ev fr) (v.ev fr) n st K .mk := by
  simp only [vstep, storeK, stK]
  cases x.ev fr <;> rfl
theorem sD_store (n : Nat) (x v : VE) (K : AV → St → Prop) (fr : Fr) (st : St) : vstepD P Z (.store n x v) fr st K = storeK (x.ev fr) (v.ev fr) n st K .mk := by
  simp only [vstepD, s_store]
theorem s_app (sz bytes : Nat) (s x : VE) (K : AV → St → Prop) (fr : Fr) (st : St) : vstep P Z (.app sz bytes s x) fr st K = appK (s.ev fr) (x.ev fr) sz bytes st K .mk := rfl
theorem sD_app (sz bytes : Nat) (s x : VE) (K : AV → St → Prop) (fr : Fr) (st : St) : vstepD P Z (.app sz bytes s x) fr st K = appD (s.ev fr) (x.ev fr) sz bytes st K .mk := rfl
theorem s_call (f : Nat) (args : List VE) (K : AV → St → Prop) (fr : Fr) (st : St) : vstep P Z (.call f args) fr st K = callH P Z f (VE.evs fr args) st K .mk := rfl
theorem sD_call (f : Nat) (args : List VE) (K : AV → St → Prop) (fr : Fr) (st : St) : vstepD P Z (.call f args) fr st K = pureQ P f (VE.evs fr args) st (fun v => K v st) .mk := rfl
theorem s_callv (g : VE) (args : List VE) (K : AV → St → Prop) (fr : Fr) (st : St) : vstep P Z (.callv g args) fr st K = cvK P Z (g.ev fr) (VE.evs fr args) st K .mk := by
  simp only [vstep, cvK, callH, yieldH]
  cases g.ev fr <;> rfl
theorem sD_callv (g : VE) (args : List VE) (K : AV → St → Prop) (fr : Fr) (st : St) : vstepD P Z (.callv g args) fr st K = cvD P (g.ev fr) (VE.evs fr args) st (fun v => K v st) .mk := by
  simp only [vstepD, cvD, pureQ]
  cases g.ev fr <;> rfl
theorem s_isnil (neg : Bool) (x : VE) (K : AV → St → Prop) (fr : Fr) (st : St) : vstep P Z (.isnil neg x) fr st K = nilK (x.ev fr) neg (fun v => K v st) .mk := by
  simp only [vstep, nilK, nilQ]
  cases x.ev fr <;> rfl
theorem sD_isnil (neg : Bool) (x : VE) (K : AV → St → Prop) (fr : Fr) (st : St) : vstepD P Z (.isnil neg x) fr st K = nilK (x.ev fr) neg (fun v => K v st) .mk := by
  simp only [vstepD, s_isnil]
def clrQ (o : Option AObj) (b off n : Nat) (st : St) (K : AV → St → Prop) (_ : Tag K) : Prop := match o with
  | some (.cells cs) => off + n ≤ cs.length ∧ K (.tup []) (st.ins b (.cells (cs.take off ++ List.replicate n .undef ++ cs.drop (off + n))))
  | _ => False
def clrK (x : AV) (sz : Nat) (st : St) (K : AV → St → Prop) (_ : Tag K) : Prop := match x with
  | .osl b n _ => clrQ (st.objs b) b 0 (n * sz) st K .mk
  | .osx b o n _ => clrQ (st.objs b) b o (n * sz) st K .mk
  | _ => False
theorem s_clr (sz : Nat) (x : VE) (K : AV → St → Prop) (fr : Fr) (st : St) : vstep P Z (.clr sz x) fr st K = clrK (x.ev fr) sz st K .mk := by
  simp only [vstep, clrK, clrQ]
  cases x.ev fr <;> rfl
theorem sD_clr (sz : Nat) (x : VE) (K : AV → St → Prop) (fr : Fr) (st : St) : vstepD P Z (.clr sz x) fr st K = clrK (x.ev fr) sz st K .mk := by
  simp only [vstepD, s_clr]
theorem k_clrO (b n c sz : Nat) (st : St) (K : AV → St → Prop) (t : Tag K) : clrK (.osl b n c) sz st K t = clrQ (st.objs b) b 0 (n * sz) st K .mk := rfl
theorem k_clrX (b o n c sz : Nat) (st : St) (K : AV → St → Prop) (t : Tag K) : clrK (.osx b o n c) sz st K t = clrQ (st.objs b) b o (n * sz) st K .mk := rfl
theorem k_clr (cs : List AV) (b off n : Nat) (st : St) (K : AV → St → Prop) (t : Tag K) : clrQ (some (.cells cs)) b off n st K t = (off + n ≤ cs.length ∧ K (.tup []) (st.ins b (.cells (cs.take off ++ List.replicate n .undef ++ cs.drop (off + n))))) := rfl
theorem k_opt (v : AV) (K : AV → Prop) (t : Tag K) : optH (some v) K t = K v := rfl
theorem k_optn (K : AV → Prop) (t : Tag K) : optH none K t = False := rfl
theorem k_box (v : AV) (st : St) (K : AV → St → Prop) (t : Tag K) : boxK v st K t = (0 < v.cells.length ∧ objQ st (fun b => K (.ptr b 0) (st.ins b (.cells v.cells))) .mk) := rfl
theorem k_store (b off : Nat) (v : AV) (n : Nat) (st : St) (K : AV → St → Prop) (t : Tag K) : storeK (.ptr b off) v n st K t = stK (st.objs b) b off v n st K .mk := rfl
theorem k_st (cs : List AV) (b off : Nat) (v : AV) (n : Nat) (st : St) (K : AV → St → Prop) (t : Tag K) : stK (some (.cells cs)) b off v n st K t = (v.cells.length = n ∧ 0 < n ∧ off + n ≤ cs.length ∧ v.cells.all AV.isCell = true ∧ K .no (st.ins b (.cells (cs.take off ++ v.cells ++ cs.drop (off + n))))) := rfl
theorem k_app (xs ys : List AV) (tk t : Tok) (sz bytes : Nat) (st : St) (K : AV → St → Prop) (g : Tag K) : appD (.sl xs tk) (.sl ys t) sz bytes st K g = (st.has sz tk = true ∧ (∀ x ∈ xs, x.cells.length = sz) ∧ (∀ y ∈ ys, okEl sz y = true) ∧ xs.length + ys.length ≤ 1000000000000 ∧ (xs.length + ys.length) * bytes ≤ 140737488355328 ∧
      freshQ (st.kill tk) sz (fun t' => K (.sl (xs ++ ys) t') ((st.kill tk).add t')) .mk) := rfl
theorem appK_a {s x : AV} {sz bytes : Nat} {st : St} {K : AV → St → Prop} {g : Tag K} (h : appD s x sz bytes st K g) : appK s x sz bytes st K g := .inl h
theorem appK_new {xs ys : List AV} {t : Tok} {sz bytes : Nat} {st : St} {K : AV → St → Prop} {g : Tag K} (h1 : ys ≠ []) (h2 : ∀ x ∈ xs, x.cells.length = sz) (h3 : ∀ y ∈ ys, okEl sz y = true) (h4 : xs.length + ys.length ≤ 1000000000000) (h5 : (xs.length + ys.length) * bytes ≤ 140737488355328)
    (h : ∀ b c rest, st.objs b = none → xs.length + ys.length ≤ c → rest.length = (c - (xs.length + ys.length)) * sz → K (.osl b (xs.length + ys.length) c) (st.ins b (.cells ((xs ++ ys).flatMap AV.cells ++ rest)))) : appK (.sl xs .full) (.sl ys t) sz bytes st K g := .inr ⟨h1, h2, h3, h4, h5, h⟩
def Wk (st : St) (aas : List AV) (st' : St) (bs : List AV) : Prop := ∀ (B : Base) (I : Im) (W : World) (vs : List Value), Rel B I st W → RepL I aas vs → ∃ J, I.le J ∧ Rel B J st' W ∧ RepL J bs vs
theorem Wk.le {s t : St} (h : s.le t) (aas : List AV) : Wk t aas s aas := fun B I W vs hr ha => ⟨I, Im.le.refl _, hr.weaken h, ha⟩
theorem VCalls.wk {f : Nat} {args : List AV} {st : St} {K K' : AV → St → Prop} (h : VCalls P Z f args st K) (hk : ∀ v s, K v s → ∃ v' s', Wk s [v] s' [v'] ∧ K' v' s') : VCalls P Z f args st K' :=
  ⟨h.1, fun B I W vs hz hr ha => (h.2 B I W vs hz hr ha).mono fun _ _ ⟨u, J, st', v, h1, h2, h3, h4, h5⟩ => by
    obtain ⟨v', s', hw, hk'⟩ := hk v st' h5
    obtain ⟨J', q1, q2, q3⟩ := hw B J _ [u] h3 ⟨h4, trivial⟩
    exact ⟨u, J', s', v', h1, h2.trans q1, q2, q3.1, hk'⟩⟩
theorem VCalls.pre {f : Nat} {args args' : List AV} {st st' : St} {K : AV → St → Prop} (hw : Wk st args st' args') (h : VCalls P Z f args' st' K) : VCalls P Z f args st K :=
  ⟨fun a w => h.1 a w, fun B I W vs hz hr ha => by
    obtain ⟨J, q1, q2, q3⟩ := hw B I W vs.toList hr ha
    exact (h.2 B J W vs (hz.trans q1) q2 q3).mono fun _ _ ⟨u, J', s', v, h1, h2, h3, h4, h5⟩ => ⟨u, J', s', v, h1, q1.trans h2, h3, h4, h5⟩⟩
theorem Rep.noTok {I : Im} {xs : List AV} {t : Tok} {v : Value} (h : Rep I (.sl xs t) v) : Rep I (.sl xs .no) v := by
  simp only [Rep] at h ⊢
  obtain ⟨a, c, sz, h1, h2, h3, h4, h5, h6, _⟩ := h
  exact ⟨a, c, sz, h1, h2, h3, h4, h5, h6, trivial⟩
theorem Wk.noTok (st : St) (xs : List AV) (t : Tok) : Wk st [.sl xs t] st [.sl xs .no] := fun B I W vs hr ha => by
  match vs, ha with
  | [v], ha => exact ⟨I, Im.le.refl _, hr, ha.1.noTok, trivial⟩
  | [], ha => exact ha.elim
  | _ :: _ :: _, ha => exact ha.2.elim
theorem Wk.noTokT (st : St) (xs : List AV) (t : Tok) (r : List AV) : Wk st [.tup (.sl xs t :: r)] st [.tup (.sl xs .no :: r)] := fun B I W vs hr ha => by
  match vs, ha with
  | [v], ha =>
    refine ⟨I, Im.le.refl _, hr, ?_, trivial⟩
    have h := ha.1
    simp only [Rep] at h ⊢
    obtain ⟨us, rfl, hu⟩ := h
    refine ⟨us, rfl, ?_⟩
    match us.toList, hu with
    | u :: us', hu => exact ⟨hu.1.noTok, hu.2⟩
    | [], hu => exact hu.elim
  | [], ha => exact ha.elim
  | _ :: _ :: _, ha => exact ha.2.elim
theorem k_cv (f : Nat) (fs cs args : List AV) (st : St) (K : AV → St → Prop) (t : Tag K) : cvK P Z (.clo f fs cs) args st K t = callH P Z f (fs ++ args ++ cs) st K .mk := rfl
theorem k_cvy (l : Nat) (args : List AV) (st : St) (K : AV → St → Prop) (t : Tag K) : cvK P Z (.yld l) args st K t = yieldH P Z l args st K .mk := rfl
theorem k_cvD (f : Nat) (fs cs args : List AV) (st : St) (K : AV → Prop) (t : Tag K) : cvD P (.clo f fs cs) args st K t = pureQ P f (fs ++ args ++ cs) st K .mk := rfl
theorem k_nil (xs : List AV) (t : Tok) (neg : Bool) (K : AV → Prop) (g : Tag K) : nilK (.sl xs t) neg K g = nilQ xs (fun b => K (.bool (if neg then !b else b))) .mk := rfl
theorem k_nil1 (x : AV) (xs : List AV) (p : Bool → Prop) (t : Tag p) : nilQ (x :: xs) p t = p false := propext ⟨fun h => h false (fun _ => rfl), fun h b hb => by rw [hb (by simp)]; exact h⟩
theorem k_g (dst : Option Nat) (op : VO) (g : Nat) (w : Bool) (pre : List Nat) (ap : List (Nat × Nat)) (K : Fr → St → Prop) (fr : Fr) (st : St) :
    vop P Z ⟨dst, op, some (g, w), pre, ap⟩ K fr st = guardH (fr.t g) w (vstep P Z op fr st (fun v s => K (fr.put dst v) s)) (K (fr.put dst .no) st) .mk .mk := vop_guard ..
theorem k_gD (dst : Option Nat) (op : VO) (g : Nat) (w : Bool) (pre : List Nat) (ap : List (Nat × Nat)) (K : Fr → St → Prop) (fr : Fr) (st : St) :
    vopD P Z ⟨dst, op, some (g, w), pre, ap⟩ K fr st = guardH (fr.t g) w (apOk ⟨dst, op, some (g, w), pre, ap⟩ fr ∧ vstepD P Z op fr st (fun v s => K (fr.put dst v) s)) (K (fr.put dst .no) st) .mk .mk := vopD_guard ..
theorem k_cond (c : VE) (a b : VCode) (ro : Option Nat) (Q : Exit → Fr → St → Prop) (fr : Fr) (st : St) : vwp P (.cond c a b) Z ro Q fr st = condH (c.ev fr) (vwp P a Z ro Q fr st) (vwp P b Z ro Q fr st) .mk .mk := rfl
theorem h_tt (A B : Prop) (a : Tag A) (b : Tag B) : guardH (.bool true) true A B a b = A := g_tt A B
theorem h_tf (A B : Prop) (a : Tag A) (b : Tag B) : guardH (.bool true) false A B a b = B := g_tf A B
theorem h_ft (A B : Prop) (a : Tag A) (b : Tag B) : guardH (.bool false) true A B a b = B := g_ft A B
theorem h_ff (A B : Prop) (a : Tag A) (b : Tag B) : guardH (.bool false) false A B a b = A := g_ff A B
theorem h_no (w : Bool) (A B : Prop) (a : Tag A) (b : Tag B) : guardH .no w A B a b = B := rfl
theorem h_ct (A B : Prop) (a : Tag A) (b : Tag B) : condH (.bool true) A B a b = A := c_tt A B
theorem h_cf (A B : Prop) (a : Tag A) (b : Tag B) : condH (.bool false) A B a b = B := c_ff A B
theorem gs {c w : Bool} {A B : Prop} {a : Tag A} {b : Tag B} (h1 : c = true → guardH (.bool true) w A B a b) (h0 : c = false → guardH (.bool false) w A B a b) : guardH (.bool c) w A B a b := by
  cases c
  · exact h0 rfl
  · exact h1 rfl
theorem cs_ {c : Bool} {A B : Prop} {a : Tag A} {b : Tag B} (h1 : c = true → A) (h0 : c = false → B) : condH (.bool c) A B a b := ⟨h1, h0⟩
theorem cells_agg (cs : List AV) : (AV.agg cs).cells = cs := rfl
theorem cells_int (k : IntKind) (n : Int) : (AV.int k n).cells = [.int k n] := rfl
theorem cells_bool (b : Bool) : (AV.bool b).cells = [.bool b] := rfl
theorem cells_str (s : ByteArray) : (AV.str s).cells = [.str s] := rfl
theorem cells_nilp  : (AV.nilp ).cells = [.nilp ] := rfl
theorem cells_ptr (b o : Nat) : (AV.ptr b o).cells = [.ptr b o] := rfl
theorem cells_iptr (x : AV) (o : Nat) : (AV.iptr x o).cells = [.iptr x o] := rfl
theorem cells_sl (xs : List AV) (t : Tok) : (AV.sl xs t).cells = [.sl xs t] := rfl
theorem cells_clo (f : Nat) (a b : List AV) : (AV.clo f a b).cells = [.clo f a b] := rfl
theorem cells_yld (l : Nat) : (AV.yld l).cells = [.yld l] := rfl
theorem cells_nilf  : (AV.nilf ).cells = [.nilf ] := rfl
theorem cells_tup (vs : List AV) : (AV.tup vs).cells = [.tup vs] := rfl
theorem cells_mp (b : Nat) : (AV.mp b).cells = [.mp b] := rfl
theorem cells_nilm  : (AV.nilm ).cells = [.nilm ] := rfl
theorem k_slc0 (x : AV) (sz : Nat) : slcOk false x sz = True := by simp [slcOk]
theorem k_slcO (b n c : Nat) (g : Bool) (sz : Nat) : slcOk g (.osl b n c) sz = True := by simp [slcOk]
theorem k_slx (sz : Nat) (xs : List AV) (t : Tok) (lo hi mx : Option AV) : vslx sz (.sl xs t) lo hi mx = vslc (.sl xs t) lo hi mx := rfl
theorem k_slc1 (xs : List AV) (t : Tok) (sz : Nat) : slcOk true (.sl xs t) sz = (0 < sz ∧ ∀ y ∈ xs, y.cells.length = sz) := by simp [slcOk]
theorem allmap {α : Type} (f : α → AV) (xs : List α) (sz : Nat) (h : ∀ x, (f x).cells.length = sz) : (∀ y ∈ xs.map f, y.cells.length = sz) = True := by simp [h]
theorem okmap {α : Type} (f : α → AV) (xs : List α) (sz : Nat) (h : ∀ x, okEl sz (f x) = true) : (∀ y ∈ xs.map f, okEl sz y = true) = True := by simp [h]
theorem e_iadG {α : Type} [Inhabited α] (f : α → AV) (xs : List α) (t : Tok) (q : IntKind) (i : Int) (sz : Nat) (h0 : 0 ≤ i) (h : i < xs.length) (hl : (f (xs.getD i.toNat default)).cells.length = sz) (hp : 0 < sz) : viad sz (.sl (xs.map f) t) (.int q i) = some (.iptr (f (xs.getD i.toNat default)) 0) := by
  obtain ⟨k, rfl⟩ : ∃ k : Nat, i = k := ⟨i.toNat, by omega⟩
  have hk : k < xs.length := by omega
  have e : xs.getD (k : Int).toNat default = xs[k] := by simp [List.getD_eq_getElem?_getD, List.getElem?_eq_getElem hk]
  rw [e] at hl ⊢
  exact e_iadk f xs t q k sz hk hl hp
theorem e_shr1 (a : Int) : vbin .shr (.int .u64 a) (.int .u64 1) = some (.int .u64 (a / 2)) := by
  simp only [vbin]
  rw [if_pos ⟨by omega, by decide⟩]
  simp only [shiftV]
  rw [show (2 : Int) ^ (1 : Int).toNat = 2 by decide, Int.fdiv_eq_ediv_of_nonneg _ (by omega)]
theorem wrap_u64 (n : Int) (h1 : 0 ≤ n) (h2 : n < 18446744073709551616) : IntKind.u64.wrap n = n := by
  unfold IntKind.wrap IntKind.bits IntKind.signed
  simp only
  split <;> simp_all <;> omega
theorem ins_has (st : St) (b : Nat) (o : AObj) (sz : Nat) (t : Tok) : (st.ins b o).has sz t = st.has sz t := by cases t <;> rfl
theorem has_full (st : St) (sz : Nat) : st.has sz .full = true := rfl
theorem kill_ins (st : St) (b : Nat) (o : AObj) (t : Tok) : (st.ins b o).kill t = (st.kill t).ins b o := by cases t <;> rfl
theorem add_ins (st : St) (b : Nat) (o : AObj) (t : Tok) : (st.ins b o).add t = (st.add t).ins b o := by cases t <;> rfl
theorem ins_mid (st : St) (a b : Nat) (x y y' : AObj) (h : ¬ b = a) : ((st.ins b y).ins a x).ins b y' = (st.ins a x).ins b y' := by
  simp only [St.ins]; congr 1; funext i
  by_cases h1 : i = b <;> simp [h1]
theorem del_ins (st : St) (b : Nat) (o : AObj) (h : st.objs b = none) : (st.ins b o).del b = st := by
  cases st
  simp only [St.ins, St.del, St.mk.injEq, and_true]
  funext i; split <;> simp_all
theorem objQ_ins (st : St) (b0 : Nat) (o : AObj) (p : Nat → Prop) (t : Tag p) : objQ (st.ins b0 o) p t = objQ st (fun b => ¬ b = b0 → ¬ b0 = b → p b) .mk := by
  simp only [objQ, ins_objs, ite_some_none]
  exact propext ⟨fun h b h1 h2 h3 => h b ⟨h2, h3, h1⟩, fun h b ⟨h2, h3, h1⟩ => h b h1 h2 h3⟩
theorem objQ_kill (st : St) (t : Tok) (p : Nat → Prop) (g : Tag p) : objQ (st.kill t) p g = objQ st p .mk := by cases t <;> rfl
theorem objQ_add (st : St) (t : Tok) (p : Nat → Prop) (g : Tag p) : objQ (st.add t) p g = objQ st p .mk := by cases t <;> rfl
theorem kill_objs (st : St) (t : Tok) : (st.kill t).objs = st.objs := by cases t <;> rfl
theorem add_objs (st : St) (t : Tok) : (st.add t).objs = st.objs := by cases t <;> rfl
theorem objQ_i {st : St} {p : Nat → Prop} {t : Tag p} (h : ∀ b, st.objs b = none → p b) : objQ st p t := h
theorem freshQ_i {st : St} {sz : Nat} {p : Tok → Prop} {t : Tag p} (h : ∀ t', st.fresh sz t' → p t') : freshQ st sz p t := h
theorem nilQ_i {xs : List AV} {p : Bool → Prop} {t : Tag p} (h : ∀ b : Bool, (xs ≠ [] → b = false) → p b) : nilQ xs p t := h
theorem imp_i {p q : Prop} (h : p → q) : p → q := h
theorem callH_use {f : Nat} {args : List AV} {v : AV} (h : VPure P f args v) {st : St} {K : AV → St → Prop} {t : Tag K} (k : K v st) : callH P Z f args st K t := h.use k
theorem pureQ_use {f : Nat} {args : List AV} {v : AV} (h : VPure P f args v) {st : St} {K : AV → Prop} {t : Tag K} (k : K v) : pureQ P f args st K t := ⟨v, fun Z s _ => h Z s, k⟩
theorem callH_then {f : Nat} {args : List AV} {st : St} {K K' : AV → St → Prop} {t : Tag K'} (h : VCalls P Z f args st K) (k : ∀ v s, K v s → K' v s) : callH P Z f args st K' t := h.mono k
theorem q_normal (K : Fr → St → Prop) (Q : Exit → Fr → St → Prop) (fr : Fr) (st : St) : thenQ K Q .normal fr st = K fr st := rfl
theorem q_ret (K : Fr → St → Prop) (Q : Exit → Fr → St → Prop) (fr : Fr) (st : St) : thenQ K Q .ret fr st = Q .ret fr st := rfl
theorem q_exit (id : Nat) (K : Fr → St → Prop) (Q : Exit → Fr → St → Prop) (fr : Fr) (st : St) : thenQ K Q (.exit id) fr st = Q (.exit id) fr st := rfl
theorem q_goto (id : Nat) (K : Fr → St → Prop) (Q : Exit → Fr → St → Prop) (fr : Fr) (st : St) : thenQ K Q (.goto id) fr st = Q (.goto id) fr st := rfl
theorem qb_normal (id : Nat) (Q : Exit → Fr → St → Prop) (fr : Fr) (st : St) : blockQ id Q .normal fr st = Q .normal fr st := rfl
theorem qb_ret (id : Nat) (Q : Exit → Fr → St → Prop) (fr : Fr) (st : St) : blockQ id Q .ret fr st = Q .ret fr st := rfl
theorem qb_goto (id l : Nat) (Q : Exit → Fr → St → Prop) (fr : Fr) (st : St) : blockQ id Q (.goto l) fr st = Q (.goto l) fr st := rfl
theorem qb_exit (id id' : Nat) (Q : Exit → Fr → St → Prop) (fr : Fr) (st : St) : blockQ id Q (.exit id') fr st = if id' = id then Q .normal fr st else Q (.exit id') fr st := rfl
theorem qj_goto (l l' : Nat) (J : Fr → St → Prop) (Q : Exit → Fr → St → Prop) (fr : Fr) (st : St) : jumpsQ l J Q (.goto l') fr st = (l' = l ∧ J fr st) := rfl
theorem qj_normal (l : Nat) (J : Fr → St → Prop) (Q : Exit → Fr → St → Prop) (fr : Fr) (st : St) : jumpsQ l J Q .normal fr st = Q .normal fr st := rfl
theorem qj_ret (l : Nat) (J : Fr → St → Prop) (Q : Exit → Fr → St → Prop) (fr : Fr) (st : St) : jumpsQ l J Q .ret fr st = Q .ret fr st := rfl
theorem qj_exit (l id : Nat) (J : Fr → St → Prop) (Q : Exit → Fr → St → Prop) (fr : Fr) (st : St) : jumpsQ l J Q (.exit id) fr st = Q (.exit id) fr st := rfl
theorem vops_n (K : Fr → St → Prop) (fr : Fr) (st : St) : vops P Z [] K fr st = K fr st := rfl
theorem vops_c (o : VOp) (r : List VOp) (K : Fr → St → Prop) (fr : Fr) (st : St) : vops P Z (o :: r) K fr st = vop P Z o (vops P Z r K) fr st := rfl
theorem vopsD_n (K : Fr → St → Prop) (fr : Fr) (st : St) : vopsD P Z [] K fr st = K fr st := rfl
theorem vopsD_c (o : VOp) (r : List VOp) (K : Fr → St → Prop) (fr : Fr) (st : St) : vopsD P Z (o :: r) K fr st = vopE P Z o (vopsD P Z r K) fr st := rfl
theorem vopE_n (dst : Option Nat) (op : VO) (g : Option (Nat × Bool)) (pre : List Nat) (K : Fr → St → Prop) (fr : Fr) (st : St) : vopE P Z ⟨dst, op, g, pre, []⟩ K fr st = vopD P Z ⟨dst, op, g, pre, []⟩ K fr st := by
  simp [vopE, VOp.bar]
theorem vopE_s (dst : Option Nat) (n : Nat) (x y : VE) (g : Option (Nat × Bool)) (pre : List Nat) (ap : List (Nat × Nat)) (K : Fr → St → Prop) (fr : Fr) (st : St) : vopE P Z ⟨dst, .store n x y, g, pre, ap⟩ K fr st = vopD P Z ⟨dst, .store n x y, g, pre, ap⟩ K fr st := by
  simp [vopE, VOp.bar]
theorem vopE_b1 (dst : Option Nat) (f : Nat) (xs : List VE) (g : Option (Nat × Bool)) (pre : List Nat) (q : Nat × Nat) (ap : List (Nat × Nat)) (K : Fr → St → Prop) (fr : Fr) (st : St) : vopE P Z ⟨dst, .call f xs, g, pre, q :: ap⟩ K fr st = vop P Z ⟨dst, .call f xs, g, pre, []⟩ K fr st := by
  simp [vopE, VOp.bar, vop]
theorem vopE_b2 (dst : Option Nat) (f : VE) (xs : List VE) (g : Option (Nat × Bool)) (pre : List Nat) (q : Nat × Nat) (ap : List (Nat × Nat)) (K : Fr → St → Prop) (fr : Fr) (st : St) : vopE P Z ⟨dst, .callv f xs, g, pre, q :: ap⟩ K fr st = vop P Z ⟨dst, .callv f xs, g, pre, []⟩ K fr st := by
  simp [vopE, VOp.bar, vop]
theorem vopE_b3 (dst : Option Nat) (a b : Nat) (x y : VE) (g : Option (Nat × Bool)) (pre : List Nat) (q : Nat × Nat) (ap : List (Nat × Nat)) (K : Fr → St → Prop) (fr : Fr) (st : St) : vopE P Z ⟨dst, .app a b x y, g, pre, q :: ap⟩ K fr st = vop P Z ⟨dst, .app a b x y, g, pre, []⟩ K fr st := by
  simp [vopE, VOp.bar, vop]
theorem vopD_nn (dst : Option Nat) (op : VO) (pre : List Nat) (K : Fr → St → Prop) (fr : Fr) (st : St) : vopD P Z ⟨dst, op, none, pre, []⟩ K fr st = vstepD P Z op fr st (fun v s => K (fr.put dst v) s) := by
  rw [vopD_none, ap_n, true_and]
end Go.Proofs.YtglekfgoadehbaaDoor.V
end
section
set_option linter.unusedSimpArgs false
set_option linter.unusedVariables false
/- What a walk leaves as it was: temps that a piece of code does not assign. Loops with that known. -/
namespace Go.Proofs.YtglekfgoadehbaaDoor.V
open Go Go.RowKit
variable {P : Program} {Z : Im}
def dsts : List VOp → List Nat
  | [] => []
  | ⟨some d, _, _, _, _⟩ :: r => d :: dsts r
  | ⟨none, _, _, _, _⟩ :: r => dsts r
def asgL : VCode → List Nat
  | .reg ops => dsts ops
  | .dreg ops => dsts ops
  | .seq a b => asgL a ++ asgL b
  | .cond _ a b => asgL a ++ asgL b
  | .block _ b => asgL b
  | .loop b => asgL b
  | .scope c _ r => asgL c ++ asgL r
  | _ => []
def noR : VCode → Bool
  | .seq a b => noR a && noR b
  | .cond _ a b => noR a && noR b
  | .block _ b => noR b
  | .loop b => noR b
  | .scope c _ r => noR c && noR r
  | .rng _ _ _ _ => false
  | _ => true
structure Fm (l : List Nat) (n : Bool) (fr fr' : Fr) : Prop where
  t : ∀ i, l.contains i = false → fr'.t i = fr.t i
  d : n = true → fr'.d = fr.d
theorem Fm.refl (l : List Nat) (n : Bool) (fr : Fr) : Fm l n fr fr := ⟨fun _ _ => rfl, fun _ => rfl⟩
theorem Fm.trans {l : List Nat} {n : Bool} {a b c : Fr} (h : Fm l n a b) (k : Fm l n b c) : Fm l n a c := ⟨fun i hi => (k.t i hi).trans (h.t i hi), fun e => (k.d e).trans (h.d e)⟩
theorem Fm.mono {l l' : List Nat} {n n' : Bool} {a b : Fr} (h : Fm l n a b) (hl : ∀ i, i ∈ l → i ∈ l') (hn : n' = true → n = true) : Fm l' n' a b :=
  ⟨fun i hi => h.t i (by simp only [List.contains_eq_mem, decide_eq_false_iff_not] at hi ⊢; exact fun e => hi (hl i e)), fun e => h.d (hn e)⟩
theorem Fm.put {l : List Nat} (fr : Fr) (d : Option Nat) (v : AV) (h : ∀ e, d = some e → e ∈ l) (n : Bool) : Fm l n fr (fr.put d v) := by
  refine ⟨fun i hi => ?_, fun _ => put_d fr d v⟩
  cases d with
  | none => rfl
  | some e =>
    rw [put_t, if_neg]
    intro q; subst q
    simp only [List.contains_eq_mem, decide_eq_false_iff_not] at hi
    exact hi (h i rfl)
theorem dsts_mem : ∀ {ops : List VOp} {o : VOp}, o ∈ ops → ∀ e, o.dst = some e → e ∈ dsts ops
  | ⟨d, _, _, _, _⟩ :: r, o, h, e, he => by
    rcases List.mem_cons.1 h with rfl | h
    · simp only at he; subst he; simp [dsts]
    · have := dsts_mem h e he
      cases d <;> simp [dsts, this]
theorem vops_frame (l : List Nat) : ∀ {ops : List VOp} {K : Fr → St → Prop} {fr : Fr} {st : St}, (∀ o ∈ ops, ∀ e, o.dst = some e → e ∈ l) → vops P Z ops K fr st → vops P Z ops (fun fr' st' => K fr' st' ∧ Fm l true fr fr') fr st
  | [], K, fr, st, _, h => ⟨h, Fm.refl ..⟩
  | o :: r, K, fr, st, hl, h => by
    simp only [vops, vop] at h ⊢
    split
    · rename_i b hb
      simp only [hb] at h
      refine ⟨fun e => vstep_mono (h.1 e) (fun v s k => vops_mono (fun fr' st' q => ⟨q.1, (Fm.put fr _ v (hl o (by simp)) true).trans q.2⟩) (vops_frame l (fun o' h' => hl o' (by simp [h'])) k)), fun e => vops_mono (fun fr' st' q => ⟨q.1, (Fm.put fr _ _ (hl o (by simp)) true).trans q.2⟩) (vops_frame l (fun o' h' => hl o' (by simp [h'])) (h.2 e))⟩
    · rename_i hb; simp only [hb] at h
theorem vopsD_frame (l : List Nat) : ∀ {ops : List VOp} {K : Fr → St → Prop} {fr : Fr} {st : St}, (∀ o ∈ ops, ∀ e, o.dst = some e → e ∈ l) → vopsD P Z ops K fr st → vopsD P Z ops (fun fr' st' => K fr' st' ∧ Fm l true fr fr') fr st
  | [], K, fr, st, _, h => ⟨h, Fm.refl ..⟩
  | o :: r, K, fr, st, hl, h => by
    simp only [vopsD, vopE] at h ⊢
    split at h
    · rename_i hb
      rw [if_pos hb]
      simp only [vop] at h ⊢
      split
      · rename_i b hb
        simp only [hb] at h
        refine ⟨fun e => vstep_mono (h.1 e) (fun v s k => vopsD_mono (fun fr' st' q => ⟨q.1, (Fm.put fr _ v (hl o (by simp)) true).trans q.2⟩) (vopsD_frame l (fun o' h' => hl o' (by simp [h'])) k)), fun e => vopsD_mono (fun fr' st' q => ⟨q.1, (Fm.put fr _ _ (hl o (by simp)) true).trans q.2⟩) (vopsD_frame l (fun o' h' => hl o' (by simp [h'])) (h.2 e))⟩
      · rename_i hb; simp only [hb] at h
    · rename_i hb
      rw [if_neg hb]
      simp only [vopD] at h ⊢
      split
      · rename_i b hb
        simp only [hb] at h
        refine ⟨fun e => ⟨(h.1 e).1, vstepD_mono (h.1 e).2 (fun v s k => vopsD_mono (fun fr' st' q => ⟨q.1, (Fm.put fr _ v (hl o (by simp)) true).trans q.2⟩) (vopsD_frame l (fun o' h' => hl o' (by simp [h'])) k))⟩, fun e => vopsD_mono (fun fr' st' q => ⟨q.1, (Fm.put fr _ _ (hl o (by simp)) true).trans q.2⟩) (vopsD_frame l (fun o' h' => hl o' (by simp [h'])) (h.2 e))⟩
      · rename_i hb; simp only [hb] at h
theorem vwp_frame {ro : Option Nat} : ∀ {c : VCode} {Q : Exit → Fr → St → Prop} {fr : Fr} {st : St}, vwp P c Z ro Q fr st → vwp P c Z ro (fun e fr' st' => Q e fr' st' ∧ Fm (asgL c) (noR c) fr fr') fr st
  | .skip, _, _, _, k => ⟨k, Fm.refl ..⟩
  | .label _, _, _, _, k => ⟨k, Fm.refl ..⟩
  | .goto _, _, _, _, k => ⟨k, Fm.refl ..⟩
  | .exit _, _, _, _, k => ⟨k, Fm.refl ..⟩
  | .ret, _, _, _, k => ⟨k, Fm.refl ..⟩
  | .reg _, _, _, _, k => vops_frame _ (fun _ => dsts_mem) k
  | .dreg _, _, _, _, k => vopsD_frame _ (fun _ => dsts_mem) k
  | .seq a b, Q, fr, st, k => by
      rw [w_seq] at k ⊢
      refine vwp_mono (fun e fr1 st1 q => ?_) (vwp_frame (c := a) k)
      have hm : Fm (asgL (.seq a b)) (noR (.seq a b)) fr fr1 := q.2.mono (fun i hi => by simp [asgL, hi]) (fun h => by simp only [noR, Bool.and_eq_true] at h; exact h.1)
      cases e <;> simp only [thenQ] at q ⊢
      · exact vwp_mono (fun e fr2 st2 q2 => ⟨q2.1, hm.trans (q2.2.mono (fun i hi => by simp [asgL, hi]) (fun h => by simp only [noR, Bool.and_eq_true] at h; exact h.2))⟩) (vwp_frame (c := b) q.1)
      all_goals exact ⟨q.1, hm⟩
  | .cond c a b, Q, fr, st, k => by
      simp only [vwp, condQ] at k ⊢
      split at k
      · exact ⟨fun e => vwp_mono (fun _ _ _ q => ⟨q.1, q.2.mono (fun i hi => by simp [asgL, hi]) (fun h => by simp only [noR, Bool.and_eq_true] at h; exact h.1)⟩) (vwp_frame (c := a) (k.1 e)), fun e => vwp_mono (fun _ _ _ q => ⟨q.1, q.2.mono (fun i hi => by simp [asgL, hi]) (fun h => by simp only [noR, Bool.and_eq_true] at h; exact h.2)⟩) (vwp_frame (c := b) (k.2 e))⟩
      · exact k
  | .block id b, Q, fr, st, k => by
      rw [w_block] at k ⊢
      refine vwp_mono (fun e fr1 st1 q => ?_) (vwp_frame (c := b) k)
      cases e <;> simp only [blockQ] at q ⊢ <;> first | (split <;> rename_i hh <;> simp only [hh, if_true, if_false] at q <;> exact q) | exact q
  | .loop b, Q, fr, st, ⟨Inv, μ, h0, hs⟩ => ⟨fun fr' s => Inv fr' s ∧ Fm (asgL b) (noR b) fr fr', μ, ⟨h0, Fm.refl ..⟩, fun fr1 st1 hi => vwp_mono (c := b) (fun e fr2 st2 q => by
      have hm := hi.2.trans q.2
      cases e <;> simp only [thenQ] at q ⊢
      · obtain ⟨⟨s, h1, h2, h3⟩, _⟩ := q; exact ⟨s, h1, ⟨h2, hm⟩, h3⟩
      all_goals exact ⟨q.1, hm⟩) (vwp_frame (c := b) (hs fr1 st1 hi.1))⟩
  | .scope c l rest, Q, fr, st, ⟨hro, J, μ, h0, hs⟩ => by
      have m1 : ∀ {a b}, Fm (asgL c) (noR c) a b → Fm (asgL (.scope c l rest)) (noR (.scope c l rest)) a b := fun h => h.mono (fun i hi => by simp [asgL, hi]) (fun h => by simp only [noR, Bool.and_eq_true] at h; exact h.1)
      have m2 : ∀ {a b}, Fm (asgL rest) (noR rest) a b → Fm (asgL (.scope c l rest)) (noR (.scope c l rest)) a b := fun h => h.mono (fun i hi => by simp [asgL, hi]) (fun h => by simp only [noR, Bool.and_eq_true] at h; exact h.2)
      refine ⟨hro, fun fr' s => J fr' s ∧ Fm (asgL (.scope c l rest)) (noR (.scope c l rest)) fr fr', μ, vwp_mono (fun e fr2 st2 q => ?_) (vwp_frame (c := c) h0), fun fr1 st1 hi => vwp_mono (fun e fr2 st2 q => ?_) (vwp_frame (c := rest) (hs fr1 st1 hi.1))⟩
      · have hm := m1 q.2
        cases e <;> simp only [jumpsQ] at q ⊢ <;> first | exact ⟨q.1.1, q.1.2, hm⟩ | exact ⟨q.1, hm⟩
      · have hm := hi.2.trans (m2 q.2)
        cases e <;> simp only [jumpsQ] at q ⊢
        case goto =>
          obtain ⟨⟨e, s, h1, h2, h3⟩, _⟩ := q
          exact ⟨e, s, h1, ⟨h2, hm⟩, h3⟩
        all_goals exact ⟨q.1, hm⟩
  | .rng g ps asg body, Q, fr, st, k => by
      have hj : ∀ {p fr1 st}, fr1.t = fr.t → jumpQ Q p fr1 st → jumpQ (fun e fr' st' => Q e fr' st' ∧ Fm (asgL (.rng g ps asg body)) (noR (.rng g ps asg body)) fr fr') p fr1 st := fun {p fr1 st} he q => by
        have hm : Fm (asgL (.rng g ps asg body)) (noR (.rng g ps asg body)) fr fr1 := ⟨fun i _ => by rw [he], fun h => by simp [noR] at h⟩
        unfold jumpQ at q ⊢
        split at q <;> first | exact ⟨q, hm⟩ | exact q.elim
      simp only [vwp] at k ⊢
      split at k
      · cases ro with
        | none => exact fun Y l D r h1 h2 h3 h4 h5 => (k Y l D r h1 h2 h3 h4 h5).mono fun v s ⟨a, p, q1, q2, q3⟩ => ⟨a, p, q1, q2, hj rfl q3⟩
        | some l0 => exact ⟨k.1, fun Y l r h1 h2 h5 => (k.2 Y l r h1 h2 h5).mono fun v s ⟨a, p, q1, q2, q3⟩ => ⟨a, p, q1, q2, hj rfl q3⟩⟩
      · exact k
theorem loopf_of {b : VCode} {ro : Option Nat} {Q : Exit → Fr → St → Prop} {fr0 : Fr} {st0 : St} {l : List Nat} {n : Bool} (hl : asgL b = l) (hd : noR b = n) {len : Nat} (hn : len ≤ 1000000000000) (Inv : Nat → Fr → St → Prop) (h0 : Inv 0 fr0 st0)
    (hs : ∀ k fr st, k < len → IntKind.i64.wrap ((k : Int) + 1) = (k : Int) + 1 → (∀ i, l.contains i = false → fr.t i = fr0.t i) → (n = true → fr.d = fr0.d) → Inv k fr st → vwp P b Z ro (thenQ (fun fr' st' => ∃ s, s.le st' ∧ Inv (k + 1) fr' s) Q) fr st)
    (he : ∀ fr st, (∀ i, l.contains i = false → fr.t i = fr0.t i) → (n = true → fr.d = fr0.d) → Inv len fr st → vwp P b Z ro (thenQ (fun _ _ => False) Q) fr st) : vwp P (.loop b) Z ro Q fr0 st0 := by
  subst hl hd
  refine loopk_of hn (fun k fr s => Inv k fr s ∧ Fm (asgL b) (noR b) fr0 fr) ⟨h0, Fm.refl ..⟩ (fun k fr st hk hw hi => ?_) (fun fr st hi => he fr st hi.2.t hi.2.d hi.1)
  refine vwp_mono (fun e fr2 st2 q => ?_) (vwp_frame (hs k fr st hk hw hi.2.t hi.2.d hi.1))
  cases e <;> simp only [thenQ] at q ⊢
  · obtain ⟨⟨s, h1, h2⟩, h3⟩ := q; exact ⟨s, h1, h2, hi.2.trans h3⟩
  all_goals exact q.1
theorem scopef_of {c rest : VCode} {l : Nat} {Q : Exit → Fr → St → Prop} {fr0 : Fr} {st0 : St} {L : List Nat} {n : Bool} (hl : asgL (.scope c l rest) = L) (hd : noR (.scope c l rest) = n) (J : Fr → St → Prop) (μ : Fr → St → Nat)
    (h0 : vwp P c Z none (jumpsQ l J Q) fr0 st0)
    (hs : ∀ fr st, (∀ i, L.contains i = false → fr.t i = fr0.t i) → (n = true → fr.d = fr0.d) → J fr st → vwp P rest Z none (jumpsQ l (fun fr' st' => ∃ s, s.le st' ∧ J fr' s ∧ μ fr' s < μ fr st) Q) fr st) : vwp P (.scope c l rest) Z none Q fr0 st0 := by
  subst hl hd
  have m1 : ∀ {a b}, Fm (asgL c) (noR c) a b → Fm (asgL (.scope c l rest)) (noR (.scope c l rest)) a b := fun h => h.mono (fun i hi => by simp [asgL, hi]) (fun h => by simp only [noR, Bool.and_eq_true] at h; exact h.1)
  have m2 : ∀ {a b}, Fm (asgL rest) (noR rest) a b → Fm (asgL (.scope c l rest)) (noR (.scope c l rest)) a b := fun h => h.mono (fun i hi => by simp [asgL, hi]) (fun h => by simp only [noR, Bool.and_eq_true] at h; exact h.2)
  refine ⟨rfl, fun fr' s => J fr' s ∧ Fm (asgL (.scope c l rest)) (noR (.scope c l rest)) fr0 fr', μ, vwp_mono (fun e fr2 st2 q => ?_) (vwp_frame (c := c) h0), fun fr1 st1 hi => vwp_mono (fun e fr2 st2 q => ?_) (vwp_frame (c := rest) (hs fr1 st1 hi.2.t hi.2.d hi.1))⟩
  · have hm := m1 q.2
    cases e <;> simp only [jumpsQ] at q ⊢ <;> first | exact ⟨q.1.1, q.1.2, hm⟩ | exact q.1
  · have hm := hi.2.trans (m2 q.2)
    cases e <;> simp only [jumpsQ] at q ⊢
    case goto =>
      obtain ⟨⟨e, s, h1, h2, h3⟩, _⟩ := q
      exact ⟨e, s, h1, ⟨h2, hm⟩, h3⟩
    all_goals exact q.1
theorem loopm_of {b : VCode} {ro : Option Nat} {Q : Exit → Fr → St → Prop} {fr0 : Fr} {st0 : St} {l : List Nat} {n : Bool} (hl : asgL b = l) (hd : noR b = n) (Inv : Fr → St → Prop) (μ : Fr → St → Nat) (h0 : Inv fr0 st0)
    (hs : ∀ fr st, (∀ i, l.contains i = false → fr.t i = fr0.t i) → (n = true → fr.d = fr0.d) → Inv fr st → vwp P b Z ro (thenQ (fun fr' st' => ∃ s, s.le st' ∧ Inv fr' s ∧ μ fr' s < μ fr st) Q) fr st) : vwp P (.loop b) Z ro Q fr0 st0 := by
  subst hl hd
  refine loop_of (fun fr s => Inv fr s ∧ Fm (asgL b) (noR b) fr0 fr) μ ⟨h0, Fm.refl ..⟩ (fun fr st hi => ?_)
  refine vwp_mono (fun e fr2 st2 q => ?_) (vwp_frame (hs fr st hi.2.t hi.2.d hi.1))
  cases e <;> simp only [thenQ] at q ⊢
  · obtain ⟨⟨s, h1, h2, h4⟩, h3⟩ := q; exact ⟨s, h1, ⟨h2, hi.2.trans h3⟩, h4⟩
  all_goals exact q.1
end Go.Proofs.YtglekfgoadehbaaDoor.V
end
section
set_option linter.unusedSimpArgs false
set_option linter.unusedVariables false
/- Maps whose values are numbers, as lists of keys and values. -/
namespace Go.Proofs.YtglekfgoadehbaaDoor.V
open Go Go.RowKit
variable {P : Program} {Z : Im}
def mlook {α : Type} [BEq α] : List (α × Int) → α → Option Int
  | [], _ => none
  | q :: r, a => if a == q.1 then some q.2 else mlook r a
def mset {α : Type} [BEq α] : List (α × Int) → α → Int → List (α × Int)
  | [], a, v => [(a, v)]
  | q :: r, a, v => if a == q.1 then (a, v) :: r else q :: mset r a v
def mins {α : Type} [BEq α] : List (α × Int) → α → Int → List (α × Int)
  | [], a, z => [(a, z)]
  | q :: r, a, z => if a == q.1 then (a, q.2) :: r else q :: mins r a z
def midx {α : Type} [BEq α] : List (α × Int) → α → Nat
  | [], _ => 0
  | q :: r, a => if a == q.1 then 0 else midx r a + 1
def msetAt {α : Type} : List (α × Int) → Nat → Int → List (α × Int)
  | [], _, _ => []
  | q :: r, 0, v => (q.1, v) :: r
  | q :: r, n + 1, v => q :: msetAt r n v
theorem msetAt_ins {α : Type} [BEq α] (a : α) (z v : Int) : ∀ l : List (α × Int), msetAt (mins l a z) (midx l a) v = mset l a v
  | [] => rfl
  | q :: r => by
    unfold mins midx mset
    split
    · rfl
    · simp only [msetAt, msetAt_ins a z v r]
def mEnts {α : Type} (enc : α → Value) (kv : IntKind) : List (α × Int) → Nat → List MapEntry
  | [], _ => []
  | q :: r, i => ⟨enc q.1, .int kv q.2, i⟩ :: mEnts enc kv r (i + 1)
def mObj {α : Type} (enc : α → Value) (kv : IntKind) (l : List (α × Int)) : Obj := .map (mEnts enc kv l 0).toArray l.length
def mo {α : Type} (enc : α → Value) (kv : IntKind) (l : List (α × Int)) : AObj := .raw (mObj enc kv l)
def KeyEnc {α : Type} [BEq α] (enc : α → Value) : Prop := ∀ a b : α, sameK (enc a) (enc b) = some (a == b)
theorem keyInt (k : IntKind) : KeyEnc (α := Int) (Value.int k) := fun a b => by simp [sameK]
theorem keyStr : KeyEnc (α := ByteArray) Value.string := fun a b => rfl
theorem mfind_ents {α : Type} [BEq α] {enc : α → Value} (he : KeyEnc enc) (kv : IntKind) (a : α) : ∀ (l : List (α × Int)) (i : Nat), mfind (enc a) (mEnts enc kv l i) i = some ((mlook l a).map fun v => (i + midx l a, .int kv v))
  | [], i => rfl
  | q :: r, i => by
    have h1 := he a q.1
    have ih := mfind_ents he kv a r (i + 1)
    unfold mEnts mfind mlook midx
    cases h : a == q.1 with
    | true =>
      rw [h] at h1
      simp only [h1]
      simp
    | false =>
      rw [h] at h1
      simp only [h1]
      rw [ih]
      cases mlook r a with
      | none => rfl
      | some v => simp only [Option.map_some, Bool.false_eq_true, if_false, Option.some.injEq, Prod.mk.injEq, and_true]; omega
theorem ents_modify {α : Type} {enc : α → Value} (kv : IntKind) (f : MapEntry → MapEntry) (g : α × Int → α × Int) : ∀ (l : List (α × Int)) (i n : Nat), (∀ q, l[n]? = some q → f ⟨enc q.1, .int kv q.2, i + n⟩ = ⟨enc (g q).1, .int kv (g q).2, i + n⟩) → (mEnts enc kv l i).modify n f = mEnts enc kv (l.modify n g) i
  | [], i, n, _ => by cases n <;> simp [mEnts]
  | q :: r, i, 0, hf => by
    have := hf q rfl
    simp only [mEnts, List.modify_zero_cons]
    rw [Nat.add_zero] at this
    rw [this]
  | q :: r, i, n + 1, hf => by
    simp only [mEnts, List.modify_succ_cons]
    rw [ents_modify kv f g r (i + 1) n (fun p hp => by have := hf p (by simpa using hp); rw [show i + 1 + n = i + (n + 1) by omega]; exact this)]
theorem ents_push {α : Type} {enc : α → Value} (kv : IntKind) (q : α × Int) : ∀ (l : List (α × Int)) (i : Nat), mEnts enc kv l i ++ [⟨enc q.1, .int kv q.2, i + l.length⟩] = mEnts enc kv (l ++ [q]) i
  | [], i => by simp [mEnts]
  | p :: r, i => by
    have ih := ents_push kv (enc := enc) q r (i + 1)
    simp only [mEnts, List.cons_append, List.length_cons]
    rw [← ih, show i + (r.length + 1) = i + 1 + r.length by omega]
theorem mset_mod {α : Type} [BEq α] (a : α) (v : Int) : ∀ (l : List (α × Int)) (u : Int), mlook l a = some u → l.modify (midx l a) (fun _ => (a, v)) = mset l a v
  | [], _, h => by cases h
  | q :: r, u, h => by
    unfold mlook at h
    unfold midx mset
    split at h
    · rename_i hc; rw [if_pos hc, if_pos hc]; rfl
    · rename_i hc; rw [if_neg hc, if_neg hc, List.modify_succ_cons, mset_mod a v r u h]
theorem mset_new {α : Type} [BEq α] (a : α) (v : Int) : ∀ (l : List (α × Int)), mlook l a = none → l ++ [(a, v)] = mset l a v
  | [], _ => rfl
  | q :: r, h => by
    unfold mlook at h
    unfold mset
    split at h
    · cases h
    · rename_i hc; rw [if_neg hc, List.cons_append, mset_new a v r h]
theorem mset_len {α : Type} [BEq α] (a : α) (v : Int) : ∀ (l : List (α × Int)), (mset l a v).length = if (mlook l a).isSome then l.length else l.length + 1
  | [] => rfl
  | q :: r => by
    unfold mset mlook
    split
    · simp
    · simp only [List.length_cons, mset_len a v r]; split <;> rfl
theorem mput_ents {α : Type} [BEq α] {enc : α → Value} (he : KeyEnc enc) (kv : IntKind) (a : α) (v : Int) (l : List (α × Int)) : mput (enc a) (.int kv v) (mEnts enc kv l 0).toArray l.length = some ((mEnts enc kv (mset l a v) 0).toArray, (mset l a v).length) := by
  unfold mput
  simp only []
  rw [mfind_ents he kv a l 0]
  have hl := mset_len a v l
  cases h : mlook l a with
  | none =>
    rw [h] at hl
    simp only [Option.map_none]
    rw [hl, ← mset_new a v l h, ← ents_push kv (a, v) l 0]
    simp
  | some u =>
    rw [h] at hl
    simp only [Option.map_some, Nat.zero_add]
    rw [hl, ← mset_mod a v l u h]
    simp only [Option.isSome_some, if_true, Option.some.injEq, Prod.mk.injEq, and_true]
    rw [List.modify_toArray]
    congr 1
    exact ents_modify kv _ _ l 0 _ (fun q _ => rfl)
theorem mins_mod {α : Type} [BEq α] (a : α) (z : Int) : ∀ (l : List (α × Int)) (u : Int), mlook l a = some u → l.modify (midx l a) (fun q => (a, q.2)) = mins l a z
  | [], _, h => by cases h
  | q :: r, u, h => by
    unfold mlook at h
    unfold midx mins
    split at h
    · rename_i hc; rw [if_pos hc, if_pos hc]; rfl
    · rename_i hc; rw [if_neg hc, if_neg hc, List.modify_succ_cons, mins_mod a z r u h]
theorem mins_new {α : Type} [BEq α] (a : α) (z : Int) : ∀ (l : List (α × Int)), mlook l a = none → l ++ [(a, z)] = mins l a z
  | [], _ => rfl
  | q :: r, h => by
    unfold mlook at h
    unfold mins
    split at h
    · cases h
    · rename_i hc; rw [if_neg hc, List.cons_append, mins_new a z r h]
theorem mins_len {α : Type} [BEq α] (a : α) (z : Int) : ∀ (l : List (α × Int)), (mins l a z).length = if (mlook l a).isSome then l.length else l.length + 1
  | [] => rfl
  | q :: r => by
    unfold mins mlook
    split
    · simp
    · simp only [List.length_cons, mins_len a z r]; split <;> rfl
theorem midx_none {α : Type} [BEq α] (a : α) : ∀ (l : List (α × Int)), mlook l a = none → midx l a = l.length
  | [], _ => rfl
  | q :: r, h => by
    unfold mlook at h
    unfold midx
    split at h
    · cases h
    · rename_i hc; rw [if_neg hc, midx_none a r h]; rfl
theorem midx_some {α : Type} [BEq α] (a : α) : ∀ (l : List (α × Int)) (u : Int), mlook l a = some u → midx l a < l.length
  | [], _, h => by cases h
  | q :: r, u, h => by
    unfold mlook at h
    unfold midx
    split at h
    · rename_i hc; rw [if_pos hc]; simp
    · rename_i hc; rw [if_neg hc]; have := midx_some a r u h; simp; omega
theorem ents_born {α : Type} {enc : α → Value} (kv : IntKind) : ∀ (l : List (α × Int)) (i n : Nat), n < l.length → ((mEnts enc kv l i)[n]?).map (·.born) = some (i + n)
  | [], _, _, h => by simp at h
  | q :: r, i, 0, _ => by simp [mEnts]
  | q :: r, i, n + 1, h => by
    simp only [mEnts, List.getElem?_cons_succ]
    rw [ents_born kv r (i + 1) n (by simpa using h), show i + 1 + n = i + (n + 1) by omega]
theorem ment_ents {α : Type} [BEq α] {enc : α → Value} (he : KeyEnc enc) (kv : IntKind) (a : α) (z : Int) (l : List (α × Int)) :
    mentF (enc a) (.int kv z) (mEnts enc kv l 0).toArray l.length = some (.int kv ((mlook l a).getD z), midx l a, (mEnts enc kv (mins l a z) 0).toArray, (mins l a z).length) := by
  unfold mentF
  simp only []
  rw [mfind_ents he kv a l 0]
  have hl := mins_len a z l
  cases h : mlook l a with
  | none =>
    rw [h] at hl
    simp only [Option.map_none]
    rw [hl, ← mins_new a z l h, ← ents_push kv (a, z) l 0, midx_none a l h]
    simp
  | some u =>
    rw [h] at hl
    simp only [Option.map_some, Nat.zero_add]
    have hb := ents_born (enc := enc) kv l 0 (midx l a) (midx_some a l u h)
    rw [Nat.zero_add] at hb
    rw [hl, ← mins_mod a z l u h]
    simp only [Option.isSome_some, if_true, Option.getD_some, Option.some.injEq, Prod.mk.injEq, and_true, true_and, List.getElem?_toArray, hb]
    rw [List.modify_toArray]
    congr 1
    exact ents_modify kv _ _ l 0 _ (fun q _ => rfl)
theorem msetAt_mod {α : Type} (v : Int) : ∀ (l : List (α × Int)) (n : Nat), l.modify n (fun q => (q.1, v)) = msetAt l n v
  | [], n => by cases n <;> rfl
  | q :: r, 0 => rfl
  | q :: r, n + 1 => by rw [List.modify_succ_cons, msetAt_mod v r n]; rfl
theorem ents_find {α : Type} {enc : α → Value} (kv : IntKind) : ∀ (l : List (α × Int)) (i n : Nat), n < l.length → (mEnts enc kv l i).findIdx? (fun e => (e.born : Int) == ((i + n : Nat) : Int)) = some n
  | [], _, _, h => by simp at h
  | q :: r, i, 0, _ => by simp [mEnts, List.findIdx?_cons]
  | q :: r, i, n + 1, h => by
    have ih := ents_find (enc := enc) kv r (i + 1) n (by simpa using h)
    rw [show i + 1 + n = i + (n + 1) by omega] at ih
    simp only [mEnts, List.findIdx?_cons]
    have hne : ((i : Int) == ((i + (n + 1) : Nat) : Int)) = false := by simp; omega
    rw [hne, ih]; rfl
theorem mset_ents {α : Type} {enc : α → Value} (kv : IntKind) (l : List (α × Int)) (n : Nat) (v : Int) (h : n < l.length) : msetF (n : Int) (.int kv v) (mEnts enc kv l 0).toArray = some (mEnts enc kv (msetAt l n v) 0).toArray := by
  unfold msetF
  have := ents_find (enc := enc) kv l 0 n h
  rw [Nat.zero_add] at this
  simp only [List.findIdx?_toArray, this]
  rw [List.modify_toArray, ← msetAt_mod v l n]
  congr 2
  exact ents_modify kv _ _ l 0 _ (fun q _ => rfl)
theorem mins_idx {α : Type} [BEq α] (a : α) (z : Int) (l : List (α × Int)) : midx l a < (mins l a z).length := by
  rw [mins_len]
  cases h : mlook l a with
  | none => simp [midx_none a l h]
  | some u => simp [midx_some a l u h]
/-! The walk's rules. -/
def mObjAt (st : St) (x : AV) : Option AObj := match x with | .mp b => st.objs b | _ => none
def mNum (x : AV) : Nat := match x with | .mp b => b | _ => 0
def mlkK (str : Bool) (z : AV) (ok : Bool) (o : Option AObj) (i : AV) (K : AV → Prop) (_ : Tag K) : Prop := match o, kvalK str i with
  | some (.raw (.map es _)), some k => optK (mget z ok (mfind k es.toList 0)) K
  | some (.minv p), some k => ∀ es clk, p es clk → optK (mget z ok (mfind k es.toList 0)) K
  | _, _ => False
def mupK (str : Bool) (o : Option AObj) (i v : AV) (K : Obj → Prop) (KN : Prop) (_ : Tag K) (_ : Tag KN) : Prop := match o, kvalK str i, cval v with
  | some (.raw (.map es clk)), some k, some u => match mput k u es clk with
    | some (es', clk') => K (.map es' clk')
    | none => False
  | some (.minv p), some k, some u => (∀ es clk, p es clk → ∃ es' clk', mput k u es clk = some (es', clk') ∧ p es' clk') ∧ KN
  | _, _, _ => False
theorem s_mkm (K : AV → St → Prop) (fr : Fr) (st : St) : vstep P Z .mkm fr st K = objQ st (fun b => K (.mp b) (st.ins b (.raw (.map #[] 0)))) .mk := rfl
theorem sD_mkm (K : AV → St → Prop) (fr : Fr) (st : St) : vstepD P Z .mkm fr st K = objQ st (fun b => K (.mp b) (st.ins b (.raw (.map #[] 0)))) .mk := rfl
theorem s_mlk (str : Bool) (z : AV) (ok : Bool) (x i : VE) (K : AV → St → Prop) (fr : Fr) (st : St) : vstep P Z (.mlk str z ok x i) fr st K = mlkK str z ok (mObjAt st (x.ev fr)) (i.ev fr) (fun v => K v st) .mk := by
  simp only [vstep, mlkK, mObjAt]
  cases x.ev fr <;> rfl
theorem sD_mlk (str : Bool) (z : AV) (ok : Bool) (x i : VE) (K : AV → St → Prop) (fr : Fr) (st : St) : vstepD P Z (.mlk str z ok x i) fr st K = mlkK str z ok (mObjAt st (x.ev fr)) (i.ev fr) (fun v => K v st) .mk := by
  simp only [vstepD, s_mlk]
theorem s_mup (str : Bool) (x i v : VE) (K : AV → St → Prop) (fr : Fr) (st : St) : vstep P Z (.mup str x i v) fr st K = mupK str (mObjAt st (x.ev fr)) (i.ev fr) (v.ev fr) (fun o => K .no (st.ins (mNum (x.ev fr)) (.raw o))) (K .no st) .mk .mk := by
  simp only [vstep, mupK, mObjAt]
  cases x.ev fr <;> rfl
theorem sD_mup (str : Bool) (x i v : VE) (K : AV → St → Prop) (fr : Fr) (st : St) : vstepD P Z (.mup str x i v) fr st K = mupK str (mObjAt st (x.ev fr)) (i.ev fr) (v.ev fr) (fun o => K .no (st.ins (mNum (x.ev fr)) (.raw o))) (K .no st) .mk .mk := by
  simp only [vstepD, s_mup]
theorem mNum_mp (b : Nat) : mNum (.mp b) = b := rfl
theorem mObjAt_mp (st : St) (b : Nat) : mObjAt st (.mp b) = st.objs b := rfl
theorem k_mlkI (z : Int) (kk kv q : IntKind) (ok : Bool) (l : List (Int × Int)) (a : Int) (K : AV → Prop) (t : Tag K) (h : q = kk) :
    mlkK false (.int kv z) ok (some (mo (Value.int kk) kv l)) (.int q a) K t = K (if ok then .tup [.int kv ((mlook l a).getD z), .bool (mlook l a).isSome] else .int kv ((mlook l a).getD z)) := by
  subst h
  simp only [mlkK, mo, mObj, kvalK, Bool.false_eq_true, if_false]
  rw [mfind_ents (keyInt q) kv a l 0]
  cases mlook l a <;> simp [mget, toCell, optK]
theorem k_mlkS (z : Int) (kv : IntKind) (ok : Bool) (l : List (ByteArray × Int)) (a : ByteArray) (K : AV → Prop) (t : Tag K) :
    mlkK true (.int kv z) ok (some (mo Value.string kv l)) (.str a) K t = K (if ok then .tup [.int kv ((mlook l a).getD z), .bool (mlook l a).isSome] else .int kv ((mlook l a).getD z)) := by
  simp only [mlkK, mo, mObj, kvalK, if_true]
  rw [mfind_ents keyStr kv a l 0]
  cases mlook l a <;> simp [mget, toCell, optK]
theorem k_mupI (kk kv q q' : IntKind) (l : List (Int × Int)) (a v : Int) (K : Obj → Prop) (KN : Prop) (t : Tag K) (t2 : Tag KN) (h : q = kk) (h' : q' = kv) : mupK false (some (mo (Value.int kk) kv l)) (.int q a) (.int q' v) K KN t t2 = K (mObj (Value.int kk) kv (mset l a v)) := by
  subst h h'
  simp only [mupK, mo, mObj, kvalK, cval, Bool.false_eq_true, if_false]
  rw [mput_ents (keyInt q) q' a v l]
def mentK (str : Bool) (z : AV) (o : Option AObj) (i : AV) (K : AV → Obj → Prop) (_ : Tag K) : Prop := match o, kvalK str i, cval z with
  | some (.raw (.map es clk)), some k, some zv => match mentF k zv es clk with
    | some (v, n, es', clk') => optK (toCell v) (fun a => K (.tup [a, .int .i64 n]) (.map es' clk'))
    | none => False
  | _, _, _ => False
def mstK (o : Option AObj) (s v : AV) (K : Obj → Prop) (_ : Tag K) : Prop := match s with
  | .int _ n => match o, cval v with
    | some (.raw (.map es clk)), some u => match msetF n u es with
      | some es' => K (.map es' clk)
      | none => False
    | _, _ => False
  | _ => False
theorem s_ment (str : Bool) (z : AV) (x i : VE) (K : AV → St → Prop) (fr : Fr) (st : St) : vstep P Z (.ment str z x i) fr st K = mentK str z (mObjAt st (x.ev fr)) (i.ev fr) (fun v o => K v (st.ins (mNum (x.ev fr)) (.raw o))) .mk := by
  simp only [vstep, mentK, mObjAt]
  cases x.ev fr <;> rfl
theorem sD_ment (str : Bool) (z : AV) (x i : VE) (K : AV → St → Prop) (fr : Fr) (st : St) : vstepD P Z (.ment str z x i) fr st K = mentK str z (mObjAt st (x.ev fr)) (i.ev fr) (fun v o => K v (st.ins (mNum (x.ev fr)) (.raw o))) .mk := by
  simp only [vstepD, s_ment]
theorem s_mst (x s v : VE) (K : AV → St → Prop) (fr : Fr) (st : St) : vstep P Z (.mst x s v) fr st K = mstK (mObjAt st (x.ev fr)) (s.ev fr) (v.ev fr) (fun o => K .no (st.ins (mNum (x.ev fr)) (.raw o))) .mk := by
  simp only [vstep, mstK, mObjAt]
  cases x.ev fr <;> cases s.ev fr <;> rfl
theorem sD_mst (x s v : VE) (K : AV → St → Prop) (fr : Fr) (st : St) : vstepD P Z (.mst x s v) fr st K = mstK (mObjAt st (x.ev fr)) (s.ev fr) (v.ev fr) (fun o => K .no (st.ins (mNum (x.ev fr)) (.raw o))) .mk := by
  simp only [vstepD, s_mst]
theorem k_mentI (kk kv q q' : IntKind) (l : List (Int × Int)) (a z : Int) (K : AV → Obj → Prop) (t : Tag K) (h : q = kk) (h' : q' = kv) : mentK false (.int q' z) (some (mo (Value.int kk) kv l)) (.int q a) K t = K (.tup [.int kv ((mlook l a).getD z), .int .i64 (midx l a)]) (mObj (Value.int kk) kv (mins l a z)) := by
  subst h h'
  simp only [mentK, mo, mObj, kvalK, cval, Bool.false_eq_true, if_false]
  rw [ment_ents (keyInt q) q' a z l]
  rfl
theorem k_mentS (kv q' : IntKind) (l : List (ByteArray × Int)) (a : ByteArray) (z : Int) (K : AV → Obj → Prop) (t : Tag K) (h' : q' = kv) : mentK true (.int q' z) (some (mo Value.string kv l)) (.str a) K t = K (.tup [.int kv ((mlook l a).getD z), .int .i64 (midx l a)]) (mObj Value.string kv (mins l a z)) := by
  subst h'
  simp only [mentK, mo, mObj, kvalK, cval, if_true]
  rw [ment_ents keyStr q' a z l]
  rfl
theorem k_mst {α : Type} [BEq α] (enc : α → Value) (kv q q' : IntKind) (l : List (α × Int)) (a : α) (z v : Int) (K : Obj → Prop) (t : Tag K) (h' : q' = kv) : mstK (some (mo enc kv (mins l a z))) (.int q (midx l a)) (.int q' v) K t = K (mObj enc kv (mset l a v)) := by
  subst h'
  simp only [mstK, mo, mObj, cval]
  rw [mset_ents q' _ _ v (mins_idx a z l), msetAt_ins]
  simp only [mins_len, mset_len]
theorem k_mupS (kv q' : IntKind) (l : List (ByteArray × Int)) (a : ByteArray) (v : Int) (K : Obj → Prop) (KN : Prop) (t : Tag K) (t2 : Tag KN) (h' : q' = kv) : mupK true (some (mo Value.string kv l)) (.str a) (.int q' v) K KN t t2 = K (mObj Value.string kv (mset l a v)) := by
  subst h'
  simp only [mupK, mo, mObj, kvalK, cval, if_true]
  rw [mput_ents keyStr q' a v l]
theorem mo_raw {α : Type} (enc : α → Value) (kv : IntKind) (l : List (α × Int)) : AObj.raw (mObj enc kv l) = mo enc kv l := rfl
/-! Bundled. -/
theorem vMd : type_of% @s_mkm ∧ type_of% @sD_mkm ∧ type_of% @s_mlk ∧ type_of% @sD_mlk ∧ type_of% @s_mup ∧ type_of% @sD_mup ∧ type_of% @s_ment ∧ type_of% @sD_ment ∧ type_of% @s_mst ∧ type_of% @sD_mst ∧ type_of% @s_clr ∧ type_of% @sD_clr :=
  ⟨@s_mkm, @sD_mkm, @s_mlk, @sD_mlk, @s_mup, @sD_mup, @s_ment, @sD_ment, @s_mst, @sD_mst, @s_clr, @sD_clr⟩
theorem k_mlkI' (z : Int) (q kv : IntKind) (ok : Bool) (l : List (Int × Int)) (a : Int) (K : AV → Prop) (t : Tag K) :
    mlkK false (.int kv z) ok (some (mo (Value.int q) kv l)) (.int q a) K t = K (if ok then .tup [.int kv ((mlook l a).getD z), .bool (mlook l a).isSome] else .int kv ((mlook l a).getD z)) := k_mlkI z q kv q ok l a K t rfl
theorem k_mupI' (q q' : IntKind) (l : List (Int × Int)) (a v : Int) (K : Obj → Prop) (KN : Prop) (t : Tag K) (t2 : Tag KN) : mupK false (some (mo (Value.int q) q' l)) (.int q a) (.int q' v) K KN t t2 = K (mObj (Value.int q) q' (mset l a v)) := k_mupI q q' q q' l a v K KN t t2 rfl rfl
theorem k_mentI' (q q' : IntKind) (l : List (Int × Int)) (a z : Int) (K : AV → Obj → Prop) (t : Tag K) : mentK false (.int q' z) (some (mo (Value.int q) q' l)) (.int q a) K t = K (.tup [.int q' ((mlook l a).getD z), .int .i64 (midx l a)]) (mObj (Value.int q) q' (mins l a z)) := k_mentI q q' q q' l a z K t rfl rfl
theorem k_mentS' (q' : IntKind) (l : List (ByteArray × Int)) (a : ByteArray) (z : Int) (K : AV → Obj → Prop) (t : Tag K) : mentK true (.int q' z) (some (mo Value.string q' l)) (.str a) K t = K (.tup [.int q' ((mlook l a).getD z), .int .i64 (midx l a)]) (mObj Value.string q' (mins l a z)) := k_mentS q' q' l a z K t rfl
theorem k_mstI' (kk q q' : IntKind) (l : List (Int × Int)) (a : Int) (z v : Int) (K : Obj → Prop) (t : Tag K) : mstK (some (mo (Value.int kk) q' (mins l a z))) (.int q (midx l a)) (.int q' v) K t = K (mObj (Value.int kk) q' (mset l a v)) := k_mst _ q' q q' l a z v K t rfl
theorem k_mstS' (q q' : IntKind) (l : List (ByteArray × Int)) (a : ByteArray) (z v : Int) (K : Obj → Prop) (t : Tag K) : mstK (some (mo Value.string q' (mins l a z))) (.int q (midx l a)) (.int q' v) K t = K (mObj Value.string q' (mset l a v)) := k_mst _ q' q q' l a z v K t rfl
theorem k_mupS' (q' : IntKind) (l : List (ByteArray × Int)) (a : ByteArray) (v : Int) (K : Obj → Prop) (KN : Prop) (t : Tag K) (t2 : Tag KN) : mupK true (some (mo Value.string q' l)) (.str a) (.int q' v) K KN t t2 = K (mObj Value.string q' (mset l a v)) := k_mupS q' q' l a v K KN t t2 rfl
/-! A map that holds what a function tells, of some keys. -/
def memo {α : Type} (enc : α → Value) (kv : IntKind) (g : α → Int) : AObj := .minv fun es clk => ∃ l : List (α × Int), es = (mEnts enc kv l 0).toArray ∧ clk = l.length ∧ ∀ q ∈ l, q.2 = g q.1
theorem mlook_in {α : Type} [BEq α] [LawfulBEq α] : ∀ {l : List (α × Int)} {a : α} {v : Int}, mlook l a = some v → (a, v) ∈ l
  | [], _, _, h => by cases h
  | q :: r, a, v, h => by
    unfold mlook at h
    split at h
    · rename_i hc; cases h; have := eq_of_beq hc; subst this; simp
    · exact List.mem_cons_of_mem _ (mlook_in h)
theorem mset_memo {α : Type} [BEq α] {g : α → Int} {a : α} : ∀ {l : List (α × Int)}, (∀ q ∈ l, q.2 = g q.1) → ∀ q ∈ mset l a (g a), q.2 = g q.1
  | [], _, q, hq => by simp [mset] at hq; subst hq; rfl
  | p :: r, h, q, hq => by
    unfold mset at hq
    split at hq
    · rcases List.mem_cons.1 hq with rfl | hq
      · rfl
      · exact h q (List.mem_cons_of_mem _ hq)
    · rcases List.mem_cons.1 hq with rfl | hq
      · exact h q (by simp)
      · exact mset_memo (fun z hz => h z (List.mem_cons_of_mem _ hz)) q hq
theorem k_mlkM (z : Int) (q kv : IntKind) (g : Int → Int) (a : Int) (K : AV → Prop) (t : Tag K) :
    mlkK false (.int kv z) true (some (memo (Value.int q) kv g)) (.int q a) K t = (K (.tup [.int kv (g a), .bool true]) ∧ K (.tup [.int kv z, .bool false])) := by
  simp only [mlkK, memo, kvalK, Bool.false_eq_true, if_false]
  apply propext
  constructor
  · intro h
    refine ⟨?_, ?_⟩
    · have := h _ _ ⟨[(a, g a)], rfl, rfl, by simp⟩
      rw [show (mEnts (Value.int q) kv [(a, g a)] 0).toArray.toList = mEnts (Value.int q) kv [(a, g a)] 0 from rfl, mfind_ents (keyInt q) kv a _ 0] at this
      simpa [mlook, mget, toCell, optK] using this
    · have := h _ _ ⟨[], rfl, rfl, by simp⟩
      rw [show (mEnts (Value.int q) kv ([] : List (Int × Int)) 0).toArray.toList = mEnts (Value.int q) kv ([] : List (Int × Int)) 0 from rfl, mfind_ents (keyInt q) kv a _ 0] at this
      simpa [mlook, mget, toCell, optK] using this
  · rintro ⟨h1, h2⟩ es clk ⟨l, rfl, rfl, hl⟩
    rw [show (mEnts (Value.int q) kv l 0).toArray.toList = mEnts (Value.int q) kv l 0 from rfl, mfind_ents (keyInt q) kv a _ 0]
    cases hm : mlook l a with
    | none => simpa [mget, toCell, optK] using h2
    | some v =>
      have := hl _ (mlook_in hm)
      simp only at this
      subst this
      simpa [mget, toCell, optK] using h1
theorem k_mupM (q q' : IntKind) (g : Int → Int) (a v : Int) (K : Obj → Prop) (KN : Prop) (t : Tag K) (t2 : Tag KN) : mupK false (some (memo (Value.int q) q' g)) (.int q a) (.int q' v) K KN t t2 = (v = g a ∧ KN) := by
  simp only [mupK, memo, kvalK, cval, Bool.false_eq_true, if_false]
  apply propext
  constructor
  · rintro ⟨h, hn⟩
    refine ⟨?_, hn⟩
    obtain ⟨es', clk', h1, l, rfl, _, hl⟩ := h _ _ ⟨[], rfl, rfl, by simp⟩
    rw [mput_ents (keyInt q) q' a v []] at h1
    simp only [Option.some.injEq, Prod.mk.injEq] at h1
    have he := h1.1
    cases l with
    | nil => simp [mset, mEnts] at he
    | cons p r =>
      simp [mset, mEnts] at he
      have := hl p (by simp)
      rw [he.1.2, he.1.1]; exact this
  · rintro ⟨rfl, hn⟩
    refine ⟨?_, hn⟩
    rintro es clk ⟨l, rfl, rfl, hl⟩
    exact ⟨_, _, mput_ents (keyInt q) q' a (g a) l, _, rfl, rfl, mset_memo hl⟩
theorem vMu : type_of% @k_slcO ∧ type_of% @k_slx ∧ type_of% @k_mlkM ∧ type_of% @k_mupM ∧ type_of% @mNum_mp ∧ type_of% @mObjAt_mp ∧ type_of% @k_mlkI' ∧ type_of% @k_mlkS ∧ type_of% @k_mupI' ∧ type_of% @k_mentI' ∧ type_of% @k_mentS' ∧ type_of% @k_mstI' ∧ type_of% @k_mstS' ∧ type_of% @k_mupS' ∧ type_of% @mo_raw ∧ type_of% @k_clrO ∧ type_of% @k_clrX ∧ type_of% @k_clr :=
  ⟨@k_slcO, @k_slx, @k_mlkM, @k_mupM, @mNum_mp, @mObjAt_mp, @k_mlkI', @k_mlkS, @k_mupI', @k_mentI', @k_mentS', @k_mstI', @k_mstS', @k_mupS', @mo_raw, @k_clrO, @k_clrX, @k_clr⟩
set_option maxRecDepth 100000
theorem vZ : type_of% @VE.ev.eq_1 ∧ type_of% @VE.ev.eq_2 ∧ type_of% @VE.evs.eq_1 ∧ type_of% @retvs.eq_1 ∧ type_of% @retvs.eq_2 ∧ type_of% @retvs.eq_3 ∧ type_of% @tupOf.eq_1 ∧ type_of% @tupOf.eq_2 ∧ type_of% @grab.eq_1 ∧ type_of% @vfill.eq_1 ∧ type_of% @vfill.eq_2 ∧ type_of% @vbsl.eq_1 ∧ type_of% @eqCells.eq_1 ∧ type_of% @eqCells.eq_2 ∧ type_of% @eqCells.eq_3 ∧ type_of% @eqCell.eq_1 ∧ type_of% @eqCell.eq_2 ∧ type_of% @eqCell.eq_3 ∧ type_of% @eqCell.eq_4 ∧ type_of% @veqs.eq_1 ∧ type_of% @veqs.eq_2 ∧ type_of% @veqs1.eq_1 ∧ type_of% @veqs1.eq_2 ∧ type_of% @vmnx.eq_1 ∧ type_of% @vmnx.eq_2 ∧ type_of% @AV.isCell.eq_1 ∧ type_of% @AV.isCell.eq_2 ∧ type_of% @AV.isCell.eq_3 ∧ type_of% @AV.isCell.eq_4 ∧ type_of% @AV.isCell.eq_5 ∧ type_of% @AV.isUndef.eq_1 ∧ type_of% @AV.isUndef.eq_2 :=
  ⟨@VE.ev.eq_1, @VE.ev.eq_2, @VE.evs.eq_1, @retvs.eq_1, @retvs.eq_2, @retvs.eq_3, @tupOf.eq_1, @tupOf.eq_2, @grab.eq_1, @vfill.eq_1, @vfill.eq_2, @vbsl.eq_1, @eqCells.eq_1, @eqCells.eq_2, @eqCells.eq_3, @eqCell.eq_1, @eqCell.eq_2, @eqCell.eq_3, @eqCell.eq_4, @veqs.eq_1, @veqs.eq_2, @veqs1.eq_1, @veqs1.eq_2, @vmnx.eq_1, @vmnx.eq_2, @AV.isCell.eq_1, @AV.isCell.eq_2, @AV.isCell.eq_3, @AV.isCell.eq_4, @AV.isCell.eq_5, @AV.isUndef.eq_1, @AV.isUndef.eq_2⟩
end Go.Proofs.YtglekfgoadehbaaDoor.V
end
section
set_option linter.unusedSimpArgs false
set_option linter.unusedVariables false
/- The walk's rules, bundled. -/
namespace Go.Proofs.YtglekfgoadehbaaDoor.V
open Go Go.RowKit
set_option maxRecDepth 100000
theorem vD : type_of% @w_skip ∧ type_of% @w_label ∧ type_of% @w_goto ∧ type_of% @w_exit ∧ type_of% @w_ret ∧ type_of% @w_reg ∧ type_of% @w_dreg ∧ type_of% @w_seq ∧ type_of% @k_cond ∧ type_of% @w_block ∧ type_of% @q_normal ∧ type_of% @q_ret ∧ type_of% @q_exit ∧ type_of% @q_goto ∧ type_of% @qb_normal ∧ type_of% @qb_ret ∧ type_of% @qb_goto ∧ type_of% @qb_exit ∧ type_of% @qj_goto ∧ type_of% @qj_normal ∧ type_of% @qj_ret ∧ type_of% @qj_exit ∧ type_of% @vops_n ∧ type_of% @vops_c ∧ type_of% @vopsD_n ∧ type_of% @vopsD_c ∧ type_of% @vopE_n ∧ type_of% @vopE_s ∧ type_of% @vopE_b1 ∧ type_of% @vopE_b2 ∧ type_of% @vopE_b3 ∧ type_of% @vop_none ∧ type_of% @k_g ∧ type_of% @vopD_nn ∧ type_of% @vopD_none ∧ type_of% @k_gD ∧ type_of% @s_mov ∧ type_of% @sD_mov ∧ type_of% @s_pick ∧ type_of% @sD_pick ∧ type_of% @s_build ∧ type_of% @sD_build ∧ type_of% @s_bsl ∧ type_of% @sD_bsl ∧ type_of% @s_load ∧ type_of% @sD_load ∧ type_of% @s_nchk ∧ type_of% @sD_nchk ∧ type_of% @s_bin ∧ type_of% @sD_bin ∧ type_of% @s_eqs ∧ type_of% @sD_eqs ∧ type_of% @s_eqs1 ∧ type_of% @sD_eqs1 ∧ type_of% @s_un ∧ type_of% @sD_un ∧ type_of% @s_conv ∧ type_of% @sD_conv ∧ type_of% @s_mkf ∧ type_of% @sD_mkf ∧ type_of% @s_fad ∧ type_of% @sD_fad ∧ type_of% @s_fld ∧ type_of% @sD_fld ∧ type_of% @s_iad ∧ type_of% @sD_iad ∧ type_of% @s_iaa ∧ type_of% @sD_iaa ∧ type_of% @s_ixa ∧ type_of% @sD_ixa ∧ type_of% @s_ixs ∧ type_of% @sD_ixs ∧ type_of% @s_ext ∧ type_of% @sD_ext ∧ type_of% @s_len ∧ type_of% @sD_len ∧ type_of% @s_lens ∧ type_of% @sD_lens ∧ type_of% @s_mnx ∧ type_of% @sD_mnx ∧ type_of% @s_slc ∧ type_of% @sD_slc ∧ type_of% @s_box ∧ type_of% @sD_box ∧ type_of% @s_alloc ∧ type_of% @sD_alloc ∧ type_of% @s_store ∧ type_of% @sD_store ∧ type_of% @s_app ∧ type_of% @sD_app ∧ type_of% @s_call ∧ type_of% @sD_call ∧ type_of% @s_callv ∧ type_of% @sD_callv ∧ type_of% @s_isnil ∧ type_of% @sD_isnil :=
  ⟨@w_skip, @w_label, @w_goto, @w_exit, @w_ret, @w_reg, @w_dreg, @w_seq, @k_cond, @w_block, @q_normal, @q_ret, @q_exit, @q_goto, @qb_normal, @qb_ret, @qb_goto, @qb_exit, @qj_goto, @qj_normal, @qj_ret, @qj_exit, @vops_n, @vops_c, @vopsD_n, @vopsD_c, @vopE_n, @vopE_s, @vopE_b1, @vopE_b2, @vopE_b3, @vop_none, @k_g, @vopD_nn, @vopD_none, @k_gD, @s_mov, @sD_mov, @s_pick, @sD_pick, @s_build, @sD_build, @s_bsl, @sD_bsl, @s_load, @sD_load, @s_nchk, @sD_nchk, @s_bin, @sD_bin, @s_eqs, @sD_eqs, @s_eqs1, @sD_eqs1, @s_un, @sD_un, @s_conv, @sD_conv, @s_mkf, @sD_mkf, @s_fad, @sD_fad, @s_fld, @sD_fld, @s_iad, @sD_iad, @s_iaa, @sD_iaa, @s_ixa, @sD_ixa, @s_ixs, @sD_ixs, @s_ext, @sD_ext, @s_len, @sD_len, @s_lens, @sD_lens, @s_mnx, @sD_mnx, @s_slc, @sD_slc, @s_box, @sD_box, @s_alloc, @sD_alloc, @s_store, @sD_store, @s_app, @sD_app, @s_call, @sD_call, @s_callv, @sD_callv, @s_isnil, @sD_isnil⟩
theorem vU : type_of% @k_box ∧ type_of% @k_store ∧ type_of% @k_st ∧ type_of% @k_cv ∧ type_of% @k_cvy ∧ type_of% @k_cvD ∧ type_of% @k_nil ∧ type_of% @k_nil1 ∧ type_of% @k_slc0 ∧ type_of% @allmap ∧ type_of% @okmap ∧ type_of% @objQ_ins ∧ type_of% @objQ_kill ∧ type_of% @objQ_add ∧ type_of% @kill_objs ∧ type_of% @add_objs ∧ type_of% @ap_n ∧ type_of% @ap_c ∧ type_of% @apart_p ∧ type_of% @apart_i ∧ type_of% @k_opt ∧ type_of% @k_optn ∧ type_of% @put_t ∧ type_of% @put_none ∧ type_of% @put_d ∧ type_of% @init_t ∧ type_of% @init_d ∧ type_of% @h_no ∧ type_of% @h_tt ∧ type_of% @h_tf ∧ type_of% @h_ft ∧ type_of% @h_ff ∧ type_of% @h_ct ∧ type_of% @h_cf ∧ type_of% @r_ret ∧ type_of% @r_normal ∧ type_of% @retK_nil ∧ type_of% @AV.int.injEq ∧ type_of% @AV.bool.injEq ∧ type_of% @e_add ∧ type_of% @e_sub ∧ type_of% @e_mul ∧ type_of% @e_eql ∧ type_of% @e_neq ∧ type_of% @e_lss ∧ type_of% @e_leq ∧ type_of% @e_gtr ∧ type_of% @e_geq ∧ type_of% @e_neg ∧ type_of% @e_conv ∧ type_of% @e_min ∧ type_of% @e_max ∧ type_of% @e_not ∧ type_of% @e_pickb ∧ type_of% @e_pick ∧ type_of% @e_ext ∧ type_of% @e_len ∧ type_of% @e_lens ∧ type_of% @e_fad ∧ type_of% @e_fadi ∧ type_of% @e_fld ∧ type_of% @e_ld ∧ type_of% @e_ldo ∧ type_of% @e_ldo2 ∧ type_of% @e_ldi ∧ type_of% @e_ldn ∧ type_of% @e_ldb ∧ type_of% @e_lds ∧ type_of% @e_ldl ∧ type_of% @e_iad0 ∧ type_of% @e_nchk ∧ type_of% @ins_objs ∧ type_of% @ins_ins ∧ type_of% @ins_mid ∧ type_of% @ite_some_none ∧ type_of% @and_imp ∧ type_of% @ins_live ∧ type_of% @if_true.{1} ∧ type_of% @if_false.{1} ∧ type_of% @List.getElem?_cons_zero.{0} ∧ type_of% @List.getElem?_cons_succ.{0} ∧ type_of% @Option.getD_some.{0} ∧ type_of% @Option.map_some.{0, 0} ∧ type_of% @Option.map_none.{0, 0} ∧ type_of% @List.map_cons.{0, 0} ∧ type_of% @List.map_nil.{0, 0} ∧ type_of% @List.length_cons.{0} ∧ type_of% @List.length_nil.{0} ∧ type_of% @Nat.zero_add ∧ type_of% @List.drop_zero.{0} ∧ type_of% @List.take_succ_cons.{0} ∧ type_of% @List.take_zero.{0} ∧ type_of% @List.drop_succ_cons.{0} ∧ type_of% @List.cons_append.{0} ∧ type_of% @List.nil_append.{0} ∧ type_of% @List.append_nil.{0} ∧ type_of% @List.all_cons.{0} ∧ type_of% @List.all_nil.{0} ∧ type_of% @Bool.and_true ∧ type_of% @Bool.true_and ∧ type_of% @Bool.false_eq_true ∧ type_of% @Bool.true_eq_false ∧ type_of% @and_true ∧ type_of% @true_and ∧ type_of% @not_true_eq_false ∧ type_of% @not_false_eq_true ∧ type_of% @ne_eq.{1} ∧ type_of% @beq_self_eq_true.{0} ∧ type_of% @Nat.lt_add_one ∧ type_of% @Nat.add_zero ∧ type_of% @List.length_map.{0, 0} ∧ type_of% @Bool.not_true ∧ type_of% @Bool.not_false ∧ type_of% @Int.toNat_zero ∧ type_of% @Int.le_refl ∧ type_of% @Int.ofNat_lt ∧ type_of% @Int.ofNat_le ∧ type_of% @Int.lt_irrefl ∧ type_of% @decide_true ∧ type_of% @decide_false ∧ type_of% @e_iadk ∧ type_of% @e_iadk0 ∧ type_of% @Bool.false_and ∧ type_of% @Bool.and_false ∧ type_of% @ex_le1 ∧ type_of% @ex_le2 ∧ type_of% @ex_le3 ∧ type_of% @le_refl_t ∧ type_of% @le_ins_t ∧ type_of% @le_ins2_t ∧ type_of% @Int.natCast_add ∧ type_of% @Int.cast_ofNat_Int ∧ type_of% @List.contains_cons.{0} ∧ type_of% @List.contains_nil.{0} ∧ type_of% @Bool.or_false ∧ type_of% @Bool.or_true ∧ type_of% @Bool.true_or ∧ type_of% @cells_agg ∧ type_of% @cells_int ∧ type_of% @cells_bool ∧ type_of% @cells_str ∧ type_of% @cells_nilp ∧ type_of% @cells_ptr ∧ type_of% @cells_iptr ∧ type_of% @cells_sl ∧ type_of% @cells_clo ∧ type_of% @cells_yld ∧ type_of% @cells_nilf ∧ type_of% @cells_tup ∧ type_of% @cells_mp ∧ type_of% @cells_nilm ∧ type_of% @ins_has ∧ type_of% @has_full ∧ type_of% @kill_ins ∧ type_of% @add_ins :=
  ⟨@k_box, @k_store, @k_st, @k_cv, @k_cvy, @k_cvD, @k_nil, @k_nil1, @k_slc0, @allmap, @okmap, @objQ_ins, @objQ_kill, @objQ_add, @kill_objs, @add_objs, @ap_n, @ap_c, @apart_p, @apart_i, @k_opt, @k_optn, @put_t, @put_none, @put_d, @init_t, @init_d, @h_no, @h_tt, @h_tf, @h_ft, @h_ff, @h_ct, @h_cf, @r_ret, @r_normal, @retK_nil, @AV.int.injEq, @AV.bool.injEq, @e_add, @e_sub, @e_mul, @e_eql, @e_neq, @e_lss, @e_leq, @e_gtr, @e_geq, @e_neg, @e_conv, @e_min, @e_max, @e_not, @e_pickb, @e_pick, @e_ext, @e_len, @e_lens, @e_fad, @e_fadi, @e_fld, @e_ld, @e_ldo, @e_ldo2, @e_ldi, @e_ldn, @e_ldb, @e_lds, @e_ldl, @e_iad0, @e_nchk, @ins_objs, @ins_ins, @ins_mid, @ite_some_none, @and_imp, @ins_live, @if_true.{1}, @if_false.{1}, @List.getElem?_cons_zero.{0}, @List.getElem?_cons_succ.{0}, @Option.getD_some.{0}, @Option.map_some.{0, 0}, @Option.map_none.{0, 0}, @List.map_cons.{0, 0}, @List.map_nil.{0, 0}, @List.length_cons.{0}, @List.length_nil.{0}, @Nat.zero_add, @List.drop_zero.{0}, @List.take_succ_cons.{0}, @List.take_zero.{0}, @List.drop_succ_cons.{0}, @List.cons_append.{0}, @List.nil_append.{0}, @List.append_nil.{0}, @List.all_cons.{0}, @List.all_nil.{0}, @Bool.and_true, @Bool.true_and, @Bool.false_eq_true, @Bool.true_eq_false, @and_true, @true_and, @not_true_eq_false, @not_false_eq_true, @ne_eq.{1}, @beq_self_eq_true.{0}, @Nat.lt_add_one, @Nat.add_zero, @List.length_map.{0, 0}, @Bool.not_true, @Bool.not_false, @Int.toNat_zero, @Int.le_refl, @Int.ofNat_lt, @Int.ofNat_le, @Int.lt_irrefl, @decide_true, @decide_false, @e_iadk, @e_iadk0, @Bool.false_and, @Bool.and_false, @ex_le1, @ex_le2, @ex_le3, @le_refl_t, @le_ins_t, @le_ins2_t, @Int.natCast_add, @Int.cast_ofNat_Int, @List.contains_cons.{0}, @List.contains_nil.{0}, @Bool.or_false, @Bool.or_true, @Bool.true_or, @cells_agg, @cells_int, @cells_bool, @cells_str, @cells_nilp, @cells_ptr, @cells_iptr, @cells_sl, @cells_clo, @cells_yld, @cells_nilf, @cells_tup, @cells_mp, @cells_nilm, @ins_has, @has_full, @kill_ins, @add_ins⟩
end Go.Proofs.YtglekfgoadehbaaDoor.V
end
section
set_option linter.unusedSimpArgs false
set_option linter.unusedVariables false
/- Words for slices' functions. -/
namespace Go.Proofs.YtglekfgoadehbaaDoor.V
open Go Go.Proofs
structure Vec where
  m : Int
  c : Int
  deriving DecidableEq, Repr, Inhabited
structure Seg where
  t : Int
  v : Vec
  deriving DecidableEq, Repr, Inhabited
structure Leg where
  d : Int
  v : Vec
  deriving DecidableEq, Repr, Inhabited
def Vec.a (v : Vec) : AV := .agg [.int .i64 v.m, .int .i64 v.c]
def Seg.a (x : Seg) : AV := .agg [.int .i64 x.t, .int .i64 x.v.m, .int .i64 x.v.c]
def Leg.a (x : Leg) : AV := .agg [.int .i64 x.d, .int .i64 x.v.m, .int .i64 x.v.c]
theorem Vec.len (x : Vec) : x.a.cells.length = 2 := rfl
theorem Seg.len (x : Seg) : x.a.cells.length = 3 := rfl
theorem Leg.len (x : Leg) : x.a.cells.length = 3 := rfl
theorem vec_beq (x y : Vec) : (x == y) = (x.m == y.m && x.c == y.c) := by
  cases x; cases y
  rw [Bool.eq_iff_iff]; simp
theorem seg_beq (x y : Seg) : (x == y) = (x.t == y.t && x.v == y.v) := by
  cases x; cases y
  rw [Bool.eq_iff_iff]; simp
def idxI (g : Nat → Bool) (n : Nat) : Int := match (List.range n).find? g with | some k => k | none => -1
theorem idx_hit {g : Nat → Bool} {n k : Nat} (hk : k < n) (hno : ∀ j, j < k → g j = false) (h : g k = true) : idxI g n = k := by
  have : (List.range n).find? g = some k := by
    rw [List.find?_range_eq_some]
    exact ⟨h, List.mem_range.2 hk, fun j hj => by simp [hno j hj]⟩
  unfold idxI; rw [this]
theorem idx_none {g : Nat → Bool} {n : Nat} (hno : ∀ j, j < n → g j = false) : idxI g n = -1 := by
  have : (List.range n).find? g = none := by
    rw [List.find?_eq_none]; intro x hx; simp [hno x (List.mem_range.1 hx)]
  unfold idxI; rw [this]
theorem idx_cases (g : Nat → Bool) (n : Nat) : idxI g n = -1 ∨ 0 ≤ idxI g n := by
  unfold idxI; split
  · exact .inr (by omega)
  · exact .inl rfl
theorem idx_any (g : Nat → Bool) (n : Nat) : decide (0 ≤ idxI g n) = (List.range n).any g := by
  unfold idxI
  split
  · rename_i k h
    have := List.find?_some h
    have hm := List.mem_of_find?_eq_some h
    have : (List.range n).any g = true := List.any_eq_true.2 ⟨k, hm, this⟩
    rw [this]; simp
  · rename_i h
    have : (List.range n).any g = false := by
      rw [List.any_eq_false]; exact fun x hx => List.find?_eq_none.1 h x hx
    rw [this]; simp
theorem any_range {α : Type} (xs : List α) (g : α → Bool) : (List.range xs.length).any (fun k => (xs[k]?.map g).getD false) = xs.any g := by
  rw [Bool.eq_iff_iff]
  simp only [List.any_eq_true, List.mem_range]
  constructor
  · rintro ⟨k, hk, h⟩
    rw [List.getElem?_eq_getElem hk] at h
    exact ⟨_, List.getElem_mem hk, h⟩
  · rintro ⟨x, hx, h⟩
    obtain ⟨k, hk, rfl⟩ := List.getElem_of_mem hx
    exact ⟨k, hk, by rw [List.getElem?_eq_getElem hk]; exact h⟩
end Go.Proofs.YtglekfgoadehbaaDoor.V
end
section
set_option linter.unusedSimpArgs false
set_option linter.unusedVariables false
/- What the package vec's functions compute. -/
namespace Go.Proofs.YtglekfgoadehbaaDoor.V
open Go Go.Proofs
set_option maxRecDepth 100000
def wr (n : Int) : Int := IntKind.i64.wrap n
def inR (n : Int) : Bool := decide (-1125899906842624 ≤ n) && decide (n ≤ 1125899906842624)
def mayV (v : Vec) : Bool := inR v.m && inR v.c
def v0 : Vec := ⟨0, 0⟩
def num (n : Int) : AV := .int .i64 n
theorem all_take_succ {α : Type} {p : α → Bool} {xs : List α} {k : Nat} (h : k < xs.length) : (xs.take (k + 1)).all p = ((xs.take k).all p && p xs[k]) := by
  rw [List.take_add_one, List.getElem?_eq_getElem h, List.all_append]; simp only [Option.toList, List.all_cons, List.all_nil, Bool.and_true]
theorem all_false {α : Type} {p : α → Bool} {xs : List α} {k : Nat} (h : k < xs.length) (hp : p xs[k] = false) : xs.all p = false := by
  rw [List.all_eq_false]; exact ⟨_, List.getElem_mem h, by simp [hp]⟩
theorem fits_v (xs : List Int) (hn : xs.length ≤ 1000000000000) (t : Tok) : VPure Tryd.prog 68 [.sl (xs.map num) t] (.bool (xs.all inR)) := by
  refine VPure.of v_vec_fits_int64_ok (Nat.le_of_ble_eq_true rfl) (fun Z st => ?_)
  simp only [v_vec_fits_int64, ↓vD, vU, ↓vMd, vMu, vZ, seval, k_app, k_slc1]
  refine loopk_of hn (fun k fr s => s = st ∧ fr.t 7 = .int .i64 k ∧ fr.t 5 = .sl (xs.map num) t ∧ fr.t 6 = .int .i64 xs.length ∧ fr.d = [] ∧ (xs.take k).all inR = true) ?_ ?_ ?_
  · simp [↓vD, vU, ↓vMd, vMu, vZ, seval, k_app, k_slc1]
  · rintro k fr s hk hw ⟨rfl, h7, h5, h6, hd, hall⟩
    (repeat' (first | (simp (maxDischargeDepth := 16) only [*, num, ↓vD, vU, ↓vMd, vMu, vZ, seval, k_app, k_slc1]) | (with_reducible refine gs (fun _ => ?_) (fun _ => ?_)) | (with_reducible refine cs_ (fun _ => ?_) (fun _ => ?_)) | (with_reducible refine appK_a ?_)))
    · rw [all_false hk (by grind [inR])]
    · rw [all_false hk (by grind [inR])]
    · rw [all_take_succ hk]; grind [inR]
  · rintro fr s ⟨rfl, h7, h5, h6, hd, hall⟩
    (repeat' (first | (simp (maxDischargeDepth := 16) only [*, ↓vD, vU, ↓vMd, vMu, vZ, seval, k_app, k_slc1]) | (with_reducible refine gs (fun _ => ?_) (fun _ => ?_)) | (with_reducible refine cs_ (fun _ => ?_) (fun _ => ?_)) | (with_reducible refine appK_a ?_)))
    rw [← hall]; simp
theorem fits2 (m c : Int) : VPure Tryd.prog 68 [.sl [.int .i64 m, .int .i64 c] .full] (.bool (inR m && inR c)) := by
  have := fits_v [m, c] (by simp) .full
  simpa [num] using this
theorem May_v (m c : Int) : VPure Tryd.prog 43 [.agg [.int .i64 m, .int .i64 c]] (.bool (mayV ⟨m, c⟩)) := by
  refine VPure.of v_vec_May_ok (Nat.le_of_ble_eq_true rfl) (fun Z st => ?_)
  simp only [v_vec_May, ↓vD, vU, ↓vMd, vMu, vZ, seval, k_app, k_slc1]
  (repeat' (first | (simp (maxDischargeDepth := 16) only [*, mayV, ↓vD, vU, ↓vMd, vMu, vZ, seval, k_app, k_slc1]) | (with_reducible refine gs (fun _ => ?_) (fun _ => ?_)) | (with_reducible refine cs_ (fun _ => ?_) (fun _ => ?_)) | (with_reducible refine objQ_i (fun _ _ => ?_); repeat with_reducible refine imp_i (fun _ => ?_)) | (with_reducible refine appK_a ?_) | (with_reducible first | refine callH_use (fits2 _ _) ?_ | refine pureQ_use (fits2 _ _) ?_)))
theorem May_1 (m c : Int) : VPure Tryd.prog 92 [.agg [.int .i64 m, .int .i64 c]] (.bool (mayV ⟨m, c⟩)) := by
  refine VPure.of v_liveryref01_May_ok (Nat.le_of_ble_eq_true rfl) (fun Z st => ?_)
  simp only [v_liveryref01_May, ↓vD, vU, ↓vMd, vMu, vZ, seval, k_app, k_slc1]
  (repeat' (first | (simp (maxDischargeDepth := 16) only [*, mayV, inR, ↓vD, vU, ↓vMd, vMu, vZ, seval, k_app, k_slc1]) | (with_reducible refine gs (fun _ => ?_) (fun _ => ?_)) | (with_reducible refine cs_ (fun _ => ?_) (fun _ => ?_)) | (with_reducible refine objQ_i (fun _ _ => ?_); repeat with_reducible refine imp_i (fun _ => ?_)) | (with_reducible refine appK_a ?_)))
theorem told_v (l : List Vec) (hl : 0 < l.length) (hn : l.length ≤ 1000000000000) (t : Tok) : VPure Tryd.prog 57 [.sl (l.map Vec.a) t] (.tup [if l.all mayV then (l[0]).a else v0.a, num (if l.all mayV then 0 else 10)]) := by
  refine VPure.of v_vec_told_ok (Nat.le_of_ble_eq_true rfl) (fun Z st => ?_)
  simp only [v_vec_told, ↓vD, vU, ↓vMd, vMu, vZ, seval, k_app, k_slc1]
  (repeat' (first | (simp (maxDischargeDepth := 16) only [*, Vec.a, v0, ↓vD, vU, ↓vMd, vMu, vZ, seval, k_app, k_slc1]) | (with_reducible refine gs (fun _ => ?_) (fun _ => ?_)) | (with_reducible refine cs_ (fun _ => ?_) (fun _ => ?_)) | (with_reducible refine objQ_i (fun _ _ => ?_); repeat with_reducible refine imp_i (fun _ => ?_)) | (with_reducible refine appK_a ?_) | (with_reducible first | refine callH_use (May_v _ _) ?_ | refine pureQ_use (May_v _ _) ?_)))
  rename_i b hb
  refine loopk_of (len := l.length) (by omega) (fun k fr s => s = st.ins b (.cells [.int .i64 0, .int .i64 0]) ∧ fr.t 8 = .int .i64 k ∧ fr.t 6 = .sl (l.map Vec.a) t ∧ fr.t 7 = .int .i64 l.length ∧ fr.t 2 = .ptr b 0 ∧ fr.t 3 = .int .i64 0 ∧ fr.t 0 = .sl (l.map Vec.a) t ∧ fr.d = [] ∧ (l.take k).all mayV = true) ?_ ?_ ?_
  · simp [↓vD, vU, ↓vMd, vMu, vZ, seval, k_app, k_slc1]
  · rintro k fr s hk hw ⟨rfl, h8, h6, h7, h2, h3, h0, hd, hall⟩
    (repeat' (first | (simp (maxDischargeDepth := 16) only [*, Vec.a, v0, ↓vD, vU, ↓vMd, vMu, vZ, seval, k_app, k_slc1]) | (with_reducible refine gs (fun _ => ?_) (fun _ => ?_)) | (with_reducible refine cs_ (fun _ => ?_) (fun _ => ?_)) | (with_reducible refine objQ_i (fun _ _ => ?_); repeat with_reducible refine imp_i (fun _ => ?_)) | (with_reducible refine appK_a ?_) | (with_reducible first | refine callH_use (May_v _ _) ?_ | refine pureQ_use (May_v _ _) ?_)))
    · rw [all_false (p := mayV) hk (by rename_i hc; simpa using hc)]; simp [num]
    · rw [all_take_succ hk]; rename_i hc; simp [hall]; simpa using hc
  · rintro fr s ⟨rfl, h8, h6, h7, h2, h3, h0, hd, hall⟩
    rw [List.take_length] at hall
    (repeat' (first | (simp (maxDischargeDepth := 16) only [*, Vec.a, v0, num, ↓vD, vU, ↓vMd, vMu, vZ, seval, k_app, k_slc1]) | (with_reducible refine gs (fun _ => ?_) (fun _ => ?_)) | (with_reducible refine cs_ (fun _ => ?_) (fun _ => ?_)) | (with_reducible refine objQ_i (fun _ _ => ?_); repeat with_reducible refine imp_i (fun _ => ?_)) | (with_reducible refine appK_a ?_) | (with_reducible first | refine callH_use (May_v _ _) ?_ | refine pureQ_use (May_v _ _) ?_)))
theorem sub1_v (x y : Int) : VPure Tryd.prog 98 [.int .i64 x, .int .i64 y] (.int .i64 (wr (x - y))) := by
  refine VPure.of v_vec_Sub_1_ok (Nat.le_of_ble_eq_true rfl) (fun Z st => ?_)
  simp only [v_vec_Sub_1, ↓vD, vU, ↓vMd, vMu, vZ, seval, k_app, k_slc1]
  (repeat' (first | (simp (maxDischargeDepth := 16) only [*, wr, ↓vD, vU, ↓vMd, vMu, vZ, seval, k_app, k_slc1]) | (with_reducible refine gs (fun _ => ?_) (fun _ => ?_)) | (with_reducible refine cs_ (fun _ => ?_) (fun _ => ?_)) | (with_reducible refine appK_a ?_)))
theorem add1_v (x y : Int) : VPure Tryd.prog 78 [.int .i64 x, .int .i64 y] (.int .i64 (wr (x + y))) := by
  refine VPure.of v_vec_Add_1_ok (Nat.le_of_ble_eq_true rfl) (fun Z st => ?_)
  simp only [v_vec_Add_1, ↓vD, vU, ↓vMd, vMu, vZ, seval, k_app, k_slc1]
  (repeat' (first | (simp (maxDischargeDepth := 16) only [*, wr, ↓vD, vU, ↓vMd, vMu, vZ, seval, k_app, k_slc1]) | (with_reducible refine gs (fun _ => ?_) (fun _ => ?_)) | (with_reducible refine cs_ (fun _ => ?_) (fun _ => ?_)) | (with_reducible refine appK_a ?_)))
theorem min1_v (x y : Int) : VPure Tryd.prog 66 [.int .i64 x, .int .i64 y] (.int .i64 (min x y)) := by
  refine VPure.of v_vec_Min_1_ok (Nat.le_of_ble_eq_true rfl) (fun Z st => ?_)
  simp only [v_vec_Min_1, ↓vD, vU, ↓vMd, vMu, vZ, seval, k_app, k_slc1]
  (repeat' (first | (simp (maxDischargeDepth := 16) only [*, wr, ↓vD, vU, ↓vMd, vMu, vZ, seval, k_app, k_slc1]) | (with_reducible refine gs (fun _ => ?_) (fun _ => ?_)) | (with_reducible refine cs_ (fun _ => ?_) (fun _ => ?_)) | (with_reducible refine appK_a ?_)))
theorem max1_v (x y : Int) : VPure Tryd.prog 65 [.int .i64 x, .int .i64 y] (.int .i64 (max x y)) := by
  refine VPure.of v_vec_Max_1_ok (Nat.le_of_ble_eq_true rfl) (fun Z st => ?_)
  simp only [v_vec_Max_1, ↓vD, vU, ↓vMd, vMu, vZ, seval, k_app, k_slc1]
  (repeat' (first | (simp (maxDischargeDepth := 16) only [*, wr, ↓vD, vU, ↓vMd, vMu, vZ, seval, k_app, k_slc1]) | (with_reducible refine gs (fun _ => ?_) (fun _ => ?_)) | (with_reducible refine cs_ (fun _ => ?_) (fun _ => ?_)) | (with_reducible refine appK_a ?_)))
theorem le1_v (x y : Int) : VPure Tryd.prog 50 [.int .i64 x, .int .i64 y] (.bool (decide (x ≤ y))) := by
  refine VPure.of v_vec_LE_1_ok (Nat.le_of_ble_eq_true rfl) (fun Z st => ?_)
  simp only [v_vec_LE_1, ↓vD, vU, ↓vMd, vMu, vZ, seval, k_app, k_slc1]
  (repeat' (first | (simp (maxDischargeDepth := 16) only [*, wr, ↓vD, vU, ↓vMd, vMu, vZ, seval, k_app, k_slc1]) | (with_reducible refine gs (fun _ => ?_) (fun _ => ?_)) | (with_reducible refine cs_ (fun _ => ?_) (fun _ => ?_)) | (with_reducible refine appK_a ?_)))
theorem both_b {f : Nat} {fs cs : List AV} (g : Int → Int → Bool) (hg : ∀ x y, VPure Tryd.prog f (fs ++ [.int .i64 x, .int .i64 y] ++ cs) (.bool (g x y))) (m c m' c' : Int) :
    VPure Tryd.prog 49 [.agg [.int .i64 m, .int .i64 c], .agg [.int .i64 m', .int .i64 c'], .clo f fs cs] (.tup [.bool (g m m'), .bool (g c c')]) := by
  refine VPure.of v_vec_both_bool_ok (Nat.le_of_ble_eq_true rfl) (fun Z st => ?_)
  simp only [v_vec_both_bool, ↓vD, vU, ↓vMd, vMu, vZ, seval, k_app, k_slc1]
  (repeat' (first | (simp (maxDischargeDepth := 16) only [*, ↓vD, vU, ↓vMd, vMu, vZ, seval, k_app, k_slc1]) | (with_reducible refine gs (fun _ => ?_) (fun _ => ?_)) | (with_reducible refine cs_ (fun _ => ?_) (fun _ => ?_)) | (with_reducible refine objQ_i (fun _ _ => ?_); repeat with_reducible refine imp_i (fun _ => ?_)) | (with_reducible refine appK_a ?_) | (with_reducible first | refine callH_use (hg _ _) ?_ | refine pureQ_use (hg _ _) ?_)))
theorem both_n {f : Nat} {fs cs : List AV} (g : Int → Int → Int) (hg : ∀ x y, VPure Tryd.prog f (fs ++ [.int .i64 x, .int .i64 y] ++ cs) (.int .i64 (g x y))) (m c m' c' : Int) :
    VPure Tryd.prog 58 [.agg [.int .i64 m, .int .i64 c], .agg [.int .i64 m', .int .i64 c'], .clo f fs cs] (.tup [.int .i64 (g m m'), .int .i64 (g c c')]) := by
  refine VPure.of v_vec_both_int64_ok (Nat.le_of_ble_eq_true rfl) (fun Z st => ?_)
  simp only [v_vec_both_int64, ↓vD, vU, ↓vMd, vMu, vZ, seval, k_app, k_slc1]
  (repeat' (first | (simp (maxDischargeDepth := 16) only [*, ↓vD, vU, ↓vMd, vMu, vZ, seval, k_app, k_slc1]) | (with_reducible refine gs (fun _ => ?_) (fun _ => ?_)) | (with_reducible refine cs_ (fun _ => ?_) (fun _ => ?_)) | (with_reducible refine objQ_i (fun _ _ => ?_); repeat with_reducible refine imp_i (fun _ => ?_)) | (with_reducible refine appK_a ?_) | (with_reducible first | refine callH_use (hg _ _) ?_ | refine pureQ_use (hg _ _) ?_)))
theorem made_v {f : Nat} {fs cs : List AV} (g : Int → Int → Int) (hg : ∀ x y, VPure Tryd.prog f (fs ++ [.int .i64 x, .int .i64 y] ++ cs) (.int .i64 (g x y))) (m c m' c' : Int) :
    VPure Tryd.prog 64 [.agg [.int .i64 m, .int .i64 c], .agg [.int .i64 m', .int .i64 c'], .clo f fs cs] (.agg [.int .i64 (g m m'), .int .i64 (g c c')]) := by
  refine VPure.of v_vec_made_ok (Nat.le_of_ble_eq_true rfl) (fun Z st => ?_)
  simp only [v_vec_made, ↓vD, vU, ↓vMd, vMu, vZ, seval, k_app, k_slc1]
  (repeat' (first | (simp (maxDischargeDepth := 16) only [*, ↓vD, vU, ↓vMd, vMu, vZ, seval, k_app, k_slc1]) | (with_reducible refine gs (fun _ => ?_) (fun _ => ?_)) | (with_reducible refine cs_ (fun _ => ?_) (fun _ => ?_)) | (with_reducible refine objQ_i (fun _ _ => ?_); repeat with_reducible refine imp_i (fun _ => ?_)) | (with_reducible refine appK_a ?_) | (with_reducible first | refine callH_use (both_n g hg _ _ _ _) ?_ | refine pureQ_use (both_n g hg _ _ _ _) ?_)))
theorem LE_v (m c m' c' : Int) : VPure Tryd.prog 27 [.agg [.int .i64 m, .int .i64 c], .agg [.int .i64 m', .int .i64 c']] (.bool (decide (m ≤ m') && decide (c ≤ c'))) := by
  refine VPure.of v_vec_LE_ok (Nat.le_of_ble_eq_true rfl) (fun Z st => ?_)
  simp only [v_vec_LE, ↓vD, vU, ↓vMd, vMu, vZ, seval, k_app, k_slc1]
  (repeat' (first | (simp (maxDischargeDepth := 16) only [*, ↓vD, vU, ↓vMd, vMu, vZ, seval, k_app, k_slc1]) | (with_reducible refine gs (fun _ => ?_) (fun _ => ?_)) | (with_reducible refine cs_ (fun _ => ?_) (fun _ => ?_)) | (with_reducible refine objQ_i (fun _ _ => ?_); repeat with_reducible refine imp_i (fun _ => ?_)) | (with_reducible refine appK_a ?_) | (with_reducible first | refine callH_use (both_b (fun x y => decide (x ≤ y)) le1_v _ _ _ _) ?_ | refine pureQ_use (both_b (fun x y => decide (x ≤ y)) le1_v _ _ _ _) ?_)))
theorem Min_v (m c m' c' : Int) : VPure Tryd.prog 39 [.agg [.int .i64 m, .int .i64 c], .agg [.int .i64 m', .int .i64 c']] (.agg [.int .i64 (min m m'), .int .i64 (min c c')]) := by
  refine VPure.of v_vec_Min_ok (Nat.le_of_ble_eq_true rfl) (fun Z st => ?_)
  simp only [v_vec_Min, ↓vD, vU, ↓vMd, vMu, vZ, seval, k_app, k_slc1]
  (repeat' (first | (simp (maxDischargeDepth := 16) only [*, ↓vD, vU, ↓vMd, vMu, vZ, seval, k_app, k_slc1]) | (with_reducible refine gs (fun _ => ?_) (fun _ => ?_)) | (with_reducible refine cs_ (fun _ => ?_) (fun _ => ?_)) | (with_reducible refine objQ_i (fun _ _ => ?_); repeat with_reducible refine imp_i (fun _ => ?_)) | (with_reducible refine appK_a ?_) | (with_reducible first | refine callH_use (made_v (fun x y => min x y) min1_v _ _ _ _) ?_ | refine pureQ_use (made_v (fun x y => min x y) min1_v _ _ _ _) ?_)))
theorem Max_v (m c m' c' : Int) : VPure Tryd.prog 38 [.agg [.int .i64 m, .int .i64 c], .agg [.int .i64 m', .int .i64 c']] (.agg [.int .i64 (max m m'), .int .i64 (max c c')]) := by
  refine VPure.of v_vec_Max_ok (Nat.le_of_ble_eq_true rfl) (fun Z st => ?_)
  simp only [v_vec_Max, ↓vD, vU, ↓vMd, vMu, vZ, seval, k_app, k_slc1]
  (repeat' (first | (simp (maxDischargeDepth := 16) only [*, ↓vD, vU, ↓vMd, vMu, vZ, seval, k_app, k_slc1]) | (with_reducible refine gs (fun _ => ?_) (fun _ => ?_)) | (with_reducible refine cs_ (fun _ => ?_) (fun _ => ?_)) | (with_reducible refine objQ_i (fun _ _ => ?_); repeat with_reducible refine imp_i (fun _ => ?_)) | (with_reducible refine appK_a ?_) | (with_reducible first | refine callH_use (made_v (fun x y => max x y) max1_v _ _ _ _) ?_ | refine pureQ_use (made_v (fun x y => max x y) max1_v _ _ _ _) ?_)))
def told1 (x : Vec) (l : List Vec) : Vec × Int := if (x :: l).all mayV then (x, 0) else (v0, 10)
def subV (a b : Vec) : Vec × Int := told1 ⟨wr (a.m - b.m), wr (a.c - b.c)⟩ [a, b]
theorem told3 (m c m' c' m2 c2 : Int) : VPure Tryd.prog 57 [.sl [.agg [.int .i64 m, .int .i64 c], .agg [.int .i64 m', .int .i64 c'], .agg [.int .i64 m2, .int .i64 c2]] .full]
    (.tup [.agg [.int .i64 (told1 ⟨m, c⟩ [⟨m', c'⟩, ⟨m2, c2⟩]).1.m, .int .i64 (told1 ⟨m, c⟩ [⟨m', c'⟩, ⟨m2, c2⟩]).1.c], .int .i64 (told1 ⟨m, c⟩ [⟨m', c'⟩, ⟨m2, c2⟩]).2]) := by
  have := told_v [⟨m, c⟩, ⟨m', c'⟩, ⟨m2, c2⟩] (by simp) (by simp) .full
  unfold told1
  split <;> rename_i h <;> simpa [Vec.a, h, num, v0] using this
theorem told2 (m c m' c' : Int) : VPure Tryd.prog 57 [.sl [.agg [.int .i64 m, .int .i64 c], .agg [.int .i64 m', .int .i64 c']] .full]
    (.tup [.agg [.int .i64 (told1 ⟨m, c⟩ [⟨m', c'⟩]).1.m, .int .i64 (told1 ⟨m, c⟩ [⟨m', c'⟩]).1.c], .int .i64 (told1 ⟨m, c⟩ [⟨m', c'⟩]).2]) := by
  have := told_v [⟨m, c⟩, ⟨m', c'⟩] (by simp) (by simp) .full
  unfold told1
  split <;> rename_i h <;> simpa [Vec.a, h, num, v0] using this
theorem Sub_v (m c m' c' : Int) : VPure Tryd.prog 93 [.agg [.int .i64 m, .int .i64 c], .agg [.int .i64 m', .int .i64 c']] (.tup [.agg [.int .i64 (subV ⟨m, c⟩ ⟨m', c'⟩).1.m, .int .i64 (subV ⟨m, c⟩ ⟨m', c'⟩).1.c], .int .i64 (subV ⟨m, c⟩ ⟨m', c'⟩).2]) := by
  refine VPure.of v_vec_Sub_ok (Nat.le_of_ble_eq_true rfl) (fun Z st => ?_)
  simp only [v_vec_Sub, ↓vD, vU, ↓vMd, vMu, vZ, seval, k_app, k_slc1]
  (repeat' (first | (simp (maxDischargeDepth := 16) only [*, subV, ↓vD, vU, ↓vMd, vMu, vZ, seval, k_app, k_slc1]) | (with_reducible refine gs (fun _ => ?_) (fun _ => ?_)) | (with_reducible refine cs_ (fun _ => ?_) (fun _ => ?_)) | (with_reducible refine objQ_i (fun _ _ => ?_); repeat with_reducible refine imp_i (fun _ => ?_)) | (with_reducible refine appK_a ?_) | (with_reducible first | refine callH_use (made_v (fun x y => wr (x - y)) sub1_v _ _ _ _) ?_ | refine pureQ_use (made_v (fun x y => wr (x - y)) sub1_v _ _ _ _) ?_) | (with_reducible first | refine callH_use (told3 _ _ _ _ _ _) ?_ | refine pureQ_use (told3 _ _ _ _ _ _) ?_)))
def addF (l : List Vec) : Vec → Vec × Int := fun s => match l with
  | [] => (s, 0)
  | v :: r => let n := told1 ⟨wr (s.m + v.m), wr (s.c + v.c)⟩ [v]; if n.2 = 0 then addF r n.1 else (v0, n.2)
theorem Add_v (l : List Vec) (hn : l.length ≤ 1000000000000) (t : Tok) : VPure Tryd.prog 52 [.sl (l.map Vec.a) t] (.tup [(addF l v0).1.a, .int .i64 (addF l v0).2]) := by
  refine VPure.of v_vec_Add_ok (Nat.le_of_ble_eq_true rfl) (fun Z st => ?_)
  simp only [v_vec_Add, ↓vD, vU, ↓vMd, vMu, vZ, seval, k_app, k_slc1]
  (repeat' (first | (simp (maxDischargeDepth := 16) only [*, Vec.a, ↓vD, vU, ↓vMd, vMu, vZ, seval, k_app, k_slc1]) | (with_reducible refine gs (fun _ => ?_) (fun _ => ?_)) | (with_reducible refine cs_ (fun _ => ?_) (fun _ => ?_)) | (with_reducible refine objQ_i (fun _ _ => ?_); repeat with_reducible refine imp_i (fun _ => ?_)) | (with_reducible refine appK_a ?_)))
  rename_i b0 hb0 b1 hb1 _ _
  refine loopf_of (by simp only [asgL, dsts, List.cons_append, List.nil_append, List.append_nil]; rfl) (by simp only [noR, Bool.and_true, Bool.and_false]; rfl) hn (fun k fr s => ∃ a : Vec, s = (st.ins b0 (.cells [.int .i64 0, .int .i64 0])).ins b1 (.cells [.int .i64 a.m, .int .i64 a.c]) ∧ fr.t 11 = .int .i64 k ∧ addF (l.drop k) a = addF l v0) ?_ ?_ ?_
  · exact ⟨v0, by simp [v0], by simp [↓vD, vU, ↓vMd, vMu, vZ, seval, k_app, k_slc1], by simp⟩
  · rintro k fr s hk hw hf hd ⟨a, rfl, h11, ha⟩
    (repeat' (first | (simp (maxDischargeDepth := 16) only [*, Vec.a, ↓vD, vU, ↓vMd, vMu, vZ, seval, k_app, k_slc1]) | (with_reducible refine gs (fun _ => ?_) (fun _ => ?_)) | (with_reducible refine cs_ (fun _ => ?_) (fun _ => ?_)) | (with_reducible refine objQ_i (fun _ _ => ?_); repeat with_reducible refine imp_i (fun _ => ?_)) | (with_reducible refine appK_a ?_) | (with_reducible first | refine callH_use (made_v (fun x y => wr (x + y)) add1_v _ _ _ _) ?_ | refine pureQ_use (made_v (fun x y => wr (x + y)) add1_v _ _ _ _) ?_) | (with_reducible first | refine callH_use (told2 _ _ _ _) ?_ | refine pureQ_use (told2 _ _ _ _) ?_)))
    · rename_i hc
      simp only [bne_iff_ne, ne_eq] at hc
      rw [← ha, List.drop_eq_getElem_cons hk]
      simp [addF, hc, v0]
    · rename_i hc
      simp only [bne_eq_false_iff_eq] at hc
      refine ⟨_, ?_, (told1 ⟨wr (a.m + l[k].m), wr (a.c + l[k].c)⟩ [l[k]]).1, rfl, ?_⟩
      · (repeat' (first | (simp (maxDischargeDepth := 16) only [*, ↓vD, vU, ↓vMd, vMu, vZ, seval, k_app, k_slc1]) | (with_reducible refine gs (fun _ => ?_) (fun _ => ?_)) | (with_reducible refine cs_ (fun _ => ?_) (fun _ => ?_)) | (with_reducible refine objQ_i (fun _ _ => ?_); repeat with_reducible refine imp_i (fun _ => ?_)) | (with_reducible refine appK_a ?_)))
      · rw [← ha, List.drop_eq_getElem_cons hk]
        simp only [addF]
        rw [if_pos hc]
  · rintro fr s hf hd ⟨a, rfl, h11, ha⟩
    rw [List.drop_length] at ha
    (repeat' (first | (simp (maxDischargeDepth := 16) only [*, Vec.a, ↓vD, vU, ↓vMd, vMu, vZ, seval, k_app, k_slc1]) | (with_reducible refine gs (fun _ => ?_) (fun _ => ?_)) | (with_reducible refine cs_ (fun _ => ?_) (fun _ => ?_)) | (with_reducible refine objQ_i (fun _ _ => ?_); repeat with_reducible refine imp_i (fun _ => ?_)) | (with_reducible refine appK_a ?_)))
    rw [← ha]; rfl
end Go.Proofs.YtglekfgoadehbaaDoor.V
end
section
set_option linter.unusedSimpArgs false
set_option linter.unusedVariables false
/- The compiled functions of the package slices (printed by Print.lean of this work). -/
namespace Go.Proofs.YtglekfgoadehbaaDoor.V
open Go Go.Proofs
def v_slices_ContainsFunc_api_Seg_api_Seg : VFn := ⟨.seq (.reg [⟨some 4, .mov (.c (.bool false)), none, [], []⟩])
(.seq (.reg [⟨some 5, .mov (.t 0), none, [], []⟩,
 ⟨some 6, .mov (.t 1), none, [], []⟩,
 ⟨some 7, .call 80 [(.t 5), (.t 6)], none, [0, 1], []⟩,
 ⟨some 8, .bin .geq (.t 7) (.c (.int .i64 0)), none, [2], []⟩,
 ⟨some 4, .mov (.t 8), none, [3, 2, 0, 1, 2, 3], []⟩])
(.ret)),
[.t 4], 9⟩
theorem v_slices_ContainsFunc_api_Seg_api_Seg_ok : compF Tryd.prog 54 = some v_slices_ContainsFunc_api_Seg_api_Seg := by kernel_rfl
def v_slices_IndexFunc_api_Seg_api_Seg : VFn := ⟨.seq (.reg [⟨some 4, .mov (.c (.int .i64 0)), none, [], []⟩])
(.seq (.seq (.reg [⟨some 6, .mov (.t 0), none, [], []⟩,
 ⟨some 7, .len (.t 6), none, [0], []⟩,
 ⟨some 8, .mov (.c (.int .i64 0)), none, [], []⟩])
(.block 0
 (.loop
 (.seq (.reg [⟨some 9, .bin .lss (.t 8) (.t 7), none, [], []⟩])
 (.seq (.cond (.t 9)
 (.skip)
 (.exit 0))
 (.seq (.block 1
 (.seq (.reg [⟨some 10, .mov (.t 8), none, [], []⟩,
 ⟨some 5, .mov (.t 10), none, [0, 0], []⟩])
 (.seq (.reg [⟨some 11, .mov (.t 1), none, [], []⟩,
 ⟨some 12, .mov (.t 0), none, [], []⟩,
 ⟨some 13, .mov (.t 5), none, [], []⟩,
 ⟨some 14, .iad 3 (.t 12) (.t 13), none, [1, 2], []⟩,
 ⟨some 15, .load 3 true (.t 14), none, [3], []⟩,
 ⟨some 16, .callv (.t 11) [(.t 15)], none, [0, 4], []⟩])
 (.cond (.t 16)
 (.seq (.reg [⟨some 17, .mov (.t 5), none, [], []⟩,
 ⟨some 4, .mov (.t 17), none, [0, 0], []⟩])
 (.ret))
 (.skip)))))
 (.reg [⟨some 18, .bin .add (.t 8) (.c (.int .i64 1)), none, [], []⟩,
 ⟨some 8, .mov (.t 18), none, [0], []⟩])))))))
(.seq (.reg [⟨some 4, .mov (.c (.int .i64 (-1))), none, [], []⟩])
(.ret))),
[.t 4], 19⟩
theorem v_slices_IndexFunc_api_Seg_api_Seg_ok : compF Tryd.prog 80 = some v_slices_IndexFunc_api_Seg_api_Seg := by kernel_rfl
def v_slices_IsSortedFunc_api_Seg_api_Seg : VFn := ⟨.seq (.reg [⟨some 4, .mov (.c (.bool false)), none, [], []⟩])
(.seq (.seq (.reg [⟨some 6, .mov (.t 0), none, [], []⟩,
 ⟨some 7, .len (.t 6), none, [0], []⟩,
 ⟨some 8, .bin .sub (.t 7) (.c (.int .i64 1)), none, [1], []⟩,
 ⟨some 5, .mov (.t 8), none, [2, 0, 1, 2], []⟩])
(.block 0
 (.loop
 (.seq (.seq (.reg [⟨some 9, .mov (.t 5), none, [], []⟩,
 ⟨some 10, .bin .gtr (.t 9) (.c (.int .i64 0)), none, [0], []⟩])
 (.cond (.t 10)
 (.skip)
 (.exit 0)))
 (.seq (.block 1
 (.seq (.dreg [⟨some 13, .mov (.t 1), none, [], []⟩,
 ⟨some 14, .mov (.t 0), none, [], []⟩,
 ⟨some 15, .mov (.t 5), none, [], []⟩,
 ⟨some 16, .iad 3 (.t 14) (.t 15), none, [1, 2], []⟩,
 ⟨some 17, .load 3 true (.t 16), none, [3], []⟩,
 ⟨some 18, .mov (.t 0), none, [], []⟩,
 ⟨some 19, .mov (.t 5), none, [], []⟩,
 ⟨some 20, .bin .sub (.t 19) (.c (.int .i64 1)), none, [6], []⟩,
 ⟨some 21, .iad 3 (.t 18) (.t 20), none, [5, 7], []⟩,
 ⟨some 22, .load 3 true (.t 21), none, [8], []⟩,
 ⟨some 23, .callv (.t 13) [(.t 17), (.t 22)], none, [0, 4, 9], [(0, 0)]⟩,
 ⟨some 24, .bin .lss (.t 23) (.c (.int .i64 0)), none, [10], []⟩])
 (.cond (.t 24)
 (.seq (.reg [⟨some 4, .mov (.c (.bool false)), none, [], []⟩])
 (.ret))
 (.skip))))
 (.reg [⟨some 11, .mov (.t 5), none, [], []⟩,
 ⟨some 12, .bin .sub (.t 11) (.c (.int .i64 1)), none, [0], []⟩,
 ⟨some 5, .mov (.t 12), none, [1, 0, 1], []⟩]))))))
(.seq (.reg [⟨some 4, .mov (.c (.bool true)), none, [], []⟩])
(.ret))),
[.t 4], 25⟩
theorem v_slices_IsSortedFunc_api_Seg_api_Seg_ok : compF Tryd.prog 85 = some v_slices_IsSortedFunc_api_Seg_api_Seg := by kernel_rfl
def v_slices_Clone_api_Seg_api_Seg : VFn := ⟨.seq (.reg [⟨some 2, .mov (.c (.sl [] .full)), none, [], []⟩])
(.seq (.seq (.reg [⟨some 3, .mov (.t 0), none, [], []⟩,
 ⟨some 4, .isnil false (.t 3), none, [0], []⟩])
(.cond (.t 4)
 (.seq (.reg [⟨some 2, .mov (.c (.sl [] .full)), none, [], []⟩])
 (.ret))
 (.skip)))
(.seq (.reg [⟨some 5, .bsl 3 [], none, [], []⟩,
 ⟨some 6, .mov (.t 0), none, [], []⟩,
 ⟨some 7, .app 3 24 (.t 5) (.t 6), none, [0, 1], []⟩,
 ⟨some 2, .mov (.t 7), none, [2, 2, 0, 1, 2], []⟩])
(.ret))),
[.t 2], 8⟩
theorem v_slices_Clone_api_Seg_api_Seg_ok : compF Tryd.prog 87 = some v_slices_Clone_api_Seg_api_Seg := by kernel_rfl
def v_slices_SortStableFunc_api_Seg_api_Seg : VFn := ⟨.reg [⟨some 4, .mov (.t 0), none, [], []⟩,
 ⟨some 5, .mov (.t 0), none, [], []⟩,
 ⟨some 6, .len (.t 5), none, [1], []⟩,
 ⟨some 7, .mov (.t 1), none, [], []⟩,
 ⟨some 8, .call 94 [(.t 4), (.t 6), (.t 7)], none, [0, 2, 3], []⟩],
[], 9⟩
theorem v_slices_SortStableFunc_api_Seg_api_Seg_ok : compF Tryd.prog 88 = some v_slices_SortStableFunc_api_Seg_api_Seg := by kernel_rfl
def v_slices_stableCmpFunc_api_Seg : VFn := ⟨.seq (.reg [⟨some 6, .mov (.c (.int .i64 20)), none, [], []⟩])
(.seq (.reg [⟨some 10, .mov (.t 6), none, [], []⟩,
 ⟨some 7, .mov (.c (.int .i64 0)), none, [], []⟩,
 ⟨some 8, .mov (.t 10), none, [0, 1, 0, 1], []⟩])
(.seq (.block 0
 (.loop
 (.seq (.seq (.reg [⟨some 11, .mov (.t 8), none, [], []⟩,
 ⟨some 12, .mov (.t 1), none, [], []⟩,
 ⟨some 13, .bin .leq (.t 11) (.t 12), none, [0, 1], []⟩])
 (.cond (.t 13)
 (.skip)
 (.exit 0)))
 (.block 1
 (.seq (.reg [⟨some 14, .mov (.t 0), none, [], []⟩,
 ⟨some 15, .mov (.t 7), none, [], []⟩,
 ⟨some 16, .mov (.t 8), none, [], []⟩,
 ⟨some 17, .mov (.t 2), none, [], []⟩,
 ⟨some 18, .call 99 [(.t 14), (.t 15), (.t 16), (.t 17)], none, [0, 1, 2, 3], []⟩])
 (.seq (.reg [⟨some 19, .mov (.t 8), none, [], []⟩,
 ⟨some 7, .mov (.t 19), none, [0, 0], []⟩])
 (.reg [⟨some 20, .mov (.t 8), none, [], []⟩,
 ⟨some 21, .mov (.t 6), none, [], []⟩,
 ⟨some 22, .bin .add (.t 20) (.t 21), none, [0, 1], []⟩,
 ⟨some 8, .mov (.t 22), none, [2, 0, 1, 2], []⟩])))))))
(.seq (.reg [⟨some 23, .mov (.t 0), none, [], []⟩,
 ⟨some 24, .mov (.t 7), none, [], []⟩,
 ⟨some 25, .mov (.t 1), none, [], []⟩,
 ⟨some 26, .mov (.t 2), none, [], []⟩,
 ⟨some 27, .call 99 [(.t 23), (.t 24), (.t 25), (.t 26)], none, [0, 1, 2, 3], []⟩])
(.block 2
 (.loop
 (.seq (.seq (.reg [⟨some 28, .mov (.t 6), none, [], []⟩,
 ⟨some 29, .mov (.t 1), none, [], []⟩,
 ⟨some 30, .bin .lss (.t 28) (.t 29), none, [0, 1], []⟩])
 (.cond (.t 30)
 (.skip)
 (.exit 2)))
 (.block 3
 (.seq (.reg [⟨some 31, .mov (.t 6), none, [], []⟩,
 ⟨some 32, .bin .mul (.c (.int .i64 2)) (.t 31), none, [0], []⟩,
 ⟨some 7, .mov (.c (.int .i64 0)), none, [], []⟩,
 ⟨some 8, .mov (.t 32), none, [1, 2, 0, 1, 2], []⟩])
 (.seq (.block 4
 (.loop
 (.seq (.seq (.reg [⟨some 33, .mov (.t 8), none, [], []⟩,
 ⟨some 34, .mov (.t 1), none, [], []⟩,
 ⟨some 35, .bin .leq (.t 33) (.t 34), none, [0, 1], []⟩])
 (.cond (.t 35)
 (.skip)
 (.exit 4)))
 (.block 5
 (.seq (.reg [⟨some 36, .mov (.t 0), none, [], []⟩,
 ⟨some 37, .mov (.t 7), none, [], []⟩,
 ⟨some 38, .mov (.t 7), none, [], []⟩,
 ⟨some 39, .mov (.t 6), none, [], []⟩,
 ⟨some 40, .bin .add (.t 38) (.t 39), none, [2, 3], []⟩,
 ⟨some 41, .mov (.t 8), none, [], []⟩,
 ⟨some 42, .mov (.t 2), none, [], []⟩,
 ⟨some 43, .call 100 [(.t 36), (.t 37), (.t 40), (.t 41), (.t 42)], none, [0, 1, 4, 5, 6], []⟩])
 (.seq (.reg [⟨some 44, .mov (.t 8), none, [], []⟩,
 ⟨some 7, .mov (.t 44), none, [0, 0], []⟩])
 (.reg [⟨some 45, .mov (.t 8), none, [], []⟩,
 ⟨some 46, .mov (.t 6), none, [], []⟩,
 ⟨some 47, .bin .mul (.c (.int .i64 2)) (.t 46), none, [1], []⟩,
 ⟨some 48, .bin .add (.t 45) (.t 47), none, [0, 2], []⟩,
 ⟨some 8, .mov (.t 48), none, [3, 0, 1, 2, 3], []⟩])))))))
 (.seq (.seq (.reg [⟨some 49, .mov (.t 7), none, [], []⟩,
 ⟨some 50, .mov (.t 6), none, [], []⟩,
 ⟨some 51, .bin .add (.t 49) (.t 50), none, [0, 1], []⟩,
 ⟨some 9, .mov (.t 51), none, [2, 0, 1, 2], []⟩])
 (.seq (.reg [⟨some 52, .mov (.t 9), none, [], []⟩,
 ⟨some 53, .mov (.t 1), none, [], []⟩,
 ⟨some 54, .bin .lss (.t 52) (.t 53), none, [0, 1], []⟩])
 (.cond (.t 54)
 (.reg [⟨some 55, .mov (.t 0), none, [], []⟩,
 ⟨some 56, .mov (.t 7), none, [], []⟩,
 ⟨some 57, .mov (.t 9), none, [], []⟩,
 ⟨some 58, .mov (.t 1), none, [], []⟩,
 ⟨some 59, .mov (.t 2), none, [], []⟩,
 ⟨some 60, .call 100 [(.t 55), (.t 56), (.t 57), (.t 58), (.t 59)], none, [0, 1, 2, 3, 4], []⟩])
 (.skip))))
 (.reg [⟨some 61, .mov (.t 6), none, [], []⟩,
 ⟨some 62, .bin .mul (.t 61) (.c (.int .i64 2)), none, [0], []⟩,
 ⟨some 6, .mov (.t 62), none, [1, 0, 1], []⟩]))))))))))),
[], 63⟩
theorem v_slices_stableCmpFunc_api_Seg_ok : compF Tryd.prog 94 = some v_slices_stableCmpFunc_api_Seg := by kernel_rfl
def v_slices_Min_int64_int64 : VFn := ⟨.seq (.reg [⟨some 2, .mov (.c (.int .i64 0)), none, [], []⟩])
(.seq (.seq (.reg [⟨some 5, .mov (.t 0), none, [], []⟩,
 ⟨some 6, .len (.t 5), none, [0], []⟩,
 ⟨some 7, .bin .lss (.t 6) (.c (.int .i64 1)), none, [1], []⟩])
(.cond (.t 7)
 (.reg [⟨some 8, .bad, none, [], []⟩,
 ⟨none, .bad, none, [0], []⟩])
 (.skip)))
(.seq (.reg [⟨some 9, .mov (.t 0), none, [], []⟩,
 ⟨some 10, .iad 1 (.t 9) (.c (.int .i64 0)), none, [0], []⟩,
 ⟨some 11, .load 1 false (.t 10), none, [1], []⟩,
 ⟨some 3, .mov (.t 11), none, [2, 0, 1, 2], []⟩])
(.seq (.seq (.reg [⟨some 4, .mov (.c (.int .i64 1)), none, [], []⟩])
(.block 0
 (.loop
 (.seq (.seq (.reg [⟨some 12, .mov (.t 4), none, [], []⟩,
 ⟨some 13, .mov (.t 0), none, [], []⟩,
 ⟨some 14, .len (.t 13), none, [1], []⟩,
 ⟨some 15, .bin .lss (.t 12) (.t 14), none, [0, 2], []⟩])
 (.cond (.t 15)
 (.skip)
 (.exit 0)))
 (.seq (.block 1
 (.reg [⟨some 18, .mov (.t 3), none, [], []⟩,
 ⟨some 19, .mov (.t 0), none, [], []⟩,
 ⟨some 20, .mov (.t 4), none, [], []⟩,
 ⟨some 21, .iad 1 (.t 19) (.t 20), none, [1, 2], []⟩,
 ⟨some 22, .load 1 false (.t 21), none, [3], []⟩,
 ⟨some 23, .mnx true (.t 18) [(.t 22)], none, [0, 4], []⟩,
 ⟨some 3, .mov (.t 23), none, [5, 0, 1, 2, 3, 4, 5], []⟩]))
 (.reg [⟨some 16, .mov (.t 4), none, [], []⟩,
 ⟨some 17, .bin .add (.t 16) (.c (.int .i64 1)), none, [0], []⟩,
 ⟨some 4, .mov (.t 17), none, [1, 0, 1], []⟩]))))))
(.seq (.reg [⟨some 24, .mov (.t 3), none, [], []⟩,
 ⟨some 2, .mov (.t 24), none, [0, 0], []⟩])
(.ret))))),
[.t 2], 25⟩
theorem v_slices_Min_int64_int64_ok : compF Tryd.prog 95 = some v_slices_Min_int64_int64 := by kernel_rfl
def v_slices_Max_int64_int64 : VFn := ⟨.seq (.reg [⟨some 2, .mov (.c (.int .i64 0)), none, [], []⟩])
(.seq (.seq (.reg [⟨some 5, .mov (.t 0), none, [], []⟩,
 ⟨some 6, .len (.t 5), none, [0], []⟩,
 ⟨some 7, .bin .lss (.t 6) (.c (.int .i64 1)), none, [1], []⟩])
(.cond (.t 7)
 (.reg [⟨some 8, .bad, none, [], []⟩,
 ⟨none, .bad, none, [0], []⟩])
 (.skip)))
(.seq (.reg [⟨some 9, .mov (.t 0), none, [], []⟩,
 ⟨some 10, .iad 1 (.t 9) (.c (.int .i64 0)), none, [0], []⟩,
 ⟨some 11, .load 1 false (.t 10), none, [1], []⟩,
 ⟨some 3, .mov (.t 11), none, [2, 0, 1, 2], []⟩])
(.seq (.seq (.reg [⟨some 4, .mov (.c (.int .i64 1)), none, [], []⟩])
(.block 0
 (.loop
 (.seq (.seq (.reg [⟨some 12, .mov (.t 4), none, [], []⟩,
 ⟨some 13, .mov (.t 0), none, [], []⟩,
 ⟨some 14, .len (.t 13), none, [1], []⟩,
 ⟨some 15, .bin .lss (.t 12) (.t 14), none, [0, 2], []⟩])
 (.cond (.t 15)
 (.skip)
 (.exit 0)))
 (.seq (.block 1
 (.reg [⟨some 18, .mov (.t 3), none, [], []⟩,
 ⟨some 19, .mov (.t 0), none, [], []⟩,
 ⟨some 20, .mov (.t 4), none, [], []⟩,
 ⟨some 21, .iad 1 (.t 19) (.t 20), none, [1, 2], []⟩,
 ⟨some 22, .load 1 false (.t 21), none, [3], []⟩,
 ⟨some 23, .mnx false (.t 18) [(.t 22)], none, [0, 4], []⟩,
 ⟨some 3, .mov (.t 23), none, [5, 0, 1, 2, 3, 4, 5], []⟩]))
 (.reg [⟨some 16, .mov (.t 4), none, [], []⟩,
 ⟨some 17, .bin .add (.t 16) (.c (.int .i64 1)), none, [0], []⟩,
 ⟨some 4, .mov (.t 17), none, [1, 0, 1], []⟩]))))))
(.seq (.reg [⟨some 24, .mov (.t 3), none, [], []⟩,
 ⟨some 2, .mov (.t 24), none, [0, 0], []⟩])
(.ret))))),
[.t 2], 25⟩
theorem v_slices_Max_int64_int64_ok : compF Tryd.prog 96 = some v_slices_Max_int64_int64 := by kernel_rfl
def v_slices_insertionSortCmpFunc_api_Seg : VFn := ⟨.seq (.reg [⟨some 10, .mov (.t 1), none, [], []⟩,
 ⟨some 11, .bin .add (.t 10) (.c (.int .i64 1)), none, [0], []⟩,
 ⟨some 8, .mov (.t 11), none, [1, 0, 1], []⟩])
(.block 0
 (.loop
 (.seq (.seq (.reg [⟨some 12, .mov (.t 8), none, [], []⟩,
 ⟨some 13, .mov (.t 2), none, [], []⟩,
 ⟨some 14, .bin .lss (.t 12) (.t 13), none, [0, 1], []⟩])
 (.cond (.t 14)
 (.skip)
 (.exit 0)))
 (.seq (.block 1
 (.seq (.reg [⟨some 17, .mov (.t 8), none, [], []⟩,
 ⟨some 9, .mov (.t 17), none, [0, 0], []⟩])
 (.block 2
 (.loop
 (.seq (.seq (.dreg [⟨some 18, .mov (.t 9), none, [], []⟩,
 ⟨some 19, .mov (.t 1), none, [], []⟩,
 ⟨some 20, .bin .gtr (.t 18) (.t 19), none, [0, 1], []⟩,
 ⟨some 21, .mov (.t 20), none, [2], []⟩,
 ⟨some 22, .mov (.t 3), some (21, true), [3], []⟩,
 ⟨some 23, .mov (.t 0), some (21, true), [3], []⟩,
 ⟨some 24, .mov (.t 9), some (21, true), [3], []⟩,
 ⟨some 25, .iad 3 (.t 23) (.t 24), some (21, true), [5, 6, 3], []⟩,
 ⟨some 26, .load 3 true (.t 25), some (21, true), [7, 3], []⟩,
 ⟨some 27, .mov (.t 0), some (21, true), [3], []⟩,
 ⟨some 28, .mov (.t 9), some (21, true), [3], []⟩,
 ⟨some 29, .bin .sub (.t 28) (.c (.int .i64 1)), some (21, true), [10, 3], []⟩,
 ⟨some 30, .iad 3 (.t 27) (.t 29), some (21, true), [9, 11, 3], []⟩,
 ⟨some 31, .load 3 true (.t 30), some (21, true), [12, 3], []⟩,
 ⟨some 32, .callv (.t 22) [(.t 26), (.t 31)], some (21, true), [4, 8, 13, 3, 3], [(0, 0)]⟩,
 ⟨some 33, .bin .lss (.t 32) (.c (.int .i64 0)), some (21, true), [14, 3], []⟩,
 ⟨some 34, .pick (.t 21) (.t 33) (.c (.bool false)), none, [3, 15], []⟩])
 (.cond (.t 34)
 (.skip)
 (.exit 2)))
 (.seq (.block 3
 (.dreg [⟨some 37, .mov (.t 0), none, [], []⟩,
 ⟨some 38, .mov (.t 9), none, [], []⟩,
 ⟨some 39, .mov (.t 0), none, [], []⟩,
 ⟨some 40, .mov (.t 9), none, [], []⟩,
 ⟨some 41, .bin .sub (.t 40) (.c (.int .i64 1)), none, [3], []⟩,
 ⟨some 42, .mov (.t 0), none, [], []⟩,
 ⟨some 43, .mov (.t 9), none, [], []⟩,
 ⟨some 44, .bin .sub (.t 43) (.c (.int .i64 1)), none, [6], []⟩,
 ⟨some 45, .iad 3 (.t 42) (.t 44), none, [5, 7], []⟩,
 ⟨some 46, .load 3 true (.t 45), none, [8], []⟩,
 ⟨some 47, .mov (.t 0), none, [], []⟩,
 ⟨some 48, .mov (.t 9), none, [], []⟩,
 ⟨some 49, .iad 3 (.t 47) (.t 48), none, [10, 11], []⟩,
 ⟨some 50, .load 3 true (.t 49), none, [12], []⟩,
 ⟨some 51, .iad 3 (.t 37) (.t 38), none, [0, 1, 0, 1, 5, 6, 7, 8, 9, 13], []⟩,
 ⟨none, .store 3 (.t 51) (.t 46), none, [14, 9, 0, 1, 5, 6, 7, 8, 9, 13], []⟩,
 ⟨some 52, .iad 3 (.t 39) (.t 41), none, [2, 4, 0, 1, 2, 3, 4, 5, 6, 7, 8, 9, 10, 11, 12, 13, 14, 15], []⟩,
 ⟨none, .store 3 (.t 52) (.t 50), none, [16, 13, 15, 0, 1, 2, 3, 4, 5, 6, 7, 8, 9, 10, 11, 12, 13, 14, 15], []⟩]))
 (.reg [⟨some 35, .mov (.t 9), none, [], []⟩,
 ⟨some 36, .bin .sub (.t 35) (.c (.int .i64 1)), none, [0], []⟩,
 ⟨some 9, .mov (.t 36), none, [1, 0, 1], []⟩])))))))
 (.reg [⟨some 15, .mov (.t 8), none, [], []⟩,
 ⟨some 16, .bin .add (.t 15) (.c (.int .i64 1)), none, [0], []⟩,
 ⟨some 8, .mov (.t 16), none, [1, 0, 1], []⟩]))))),
[], 53⟩
theorem v_slices_insertionSortCmpFunc_api_Seg_ok : compF Tryd.prog 99 = some v_slices_insertionSortCmpFunc_api_Seg := by kernel_rfl
def v_slices_symMergeCmpFunc_api_Seg : VFn := ⟨.seq (.seq (.reg [⟨some 25, .mov (.t 2), none, [], []⟩,
 ⟨some 26, .mov (.t 1), none, [], []⟩,
 ⟨some 27, .bin .sub (.t 25) (.t 26), none, [0, 1], []⟩,
 ⟨some 28, .bin .eql (.t 27) (.c (.int .i64 1)), none, [2], []⟩])
(.cond (.t 28)
 (.seq (.reg [⟨some 29, .mov (.t 2), none, [], []⟩,
 ⟨some 10, .mov (.t 29), none, [0, 0], []⟩])
 (.seq (.reg [⟨some 30, .mov (.t 3), none, [], []⟩,
 ⟨some 11, .mov (.t 30), none, [0, 0], []⟩])
 (.seq (.block 0
 (.loop
 (.seq (.seq (.reg [⟨some 31, .mov (.t 10), none, [], []⟩,
 ⟨some 32, .mov (.t 11), none, [], []⟩,
 ⟨some 33, .bin .lss (.t 31) (.t 32), none, [0, 1], []⟩])
 (.cond (.t 33)
 (.skip)
 (.exit 0)))
 (.block 1
 (.seq (.reg [⟨some 34, .mov (.t 10), none, [], []⟩,
 ⟨some 35, .mov (.t 11), none, [], []⟩,
 ⟨some 36, .bin .add (.t 34) (.t 35), none, [0, 1], []⟩,
 ⟨some 37, .conv .u64 (.t 36), none, [2], []⟩,
 ⟨some 38, .bin .shr (.t 37) (.c (.int .u64 1)), none, [3], []⟩,
 ⟨some 39, .conv .i64 (.t 38), none, [4], []⟩,
 ⟨some 12, .mov (.t 39), none, [5, 0, 1, 2, 3, 4, 5], []⟩])
 (.seq (.dreg [⟨some 40, .mov (.t 4), none, [], []⟩,
 ⟨some 41, .mov (.t 0), none, [], []⟩,
 ⟨some 42, .mov (.t 12), none, [], []⟩,
 ⟨some 43, .iad 3 (.t 41) (.t 42), none, [1, 2], []⟩,
 ⟨some 44, .load 3 true (.t 43), none, [3], []⟩,
 ⟨some 45, .mov (.t 0), none, [], []⟩,
 ⟨some 46, .mov (.t 1), none, [], []⟩,
 ⟨some 47, .iad 3 (.t 45) (.t 46), none, [5, 6], []⟩,
 ⟨some 48, .load 3 true (.t 47), none, [7], []⟩,
 ⟨some 49, .callv (.t 40) [(.t 44), (.t 48)], none, [0, 4, 8], [(0, 0)]⟩,
 ⟨some 50, .bin .lss (.t 49) (.c (.int .i64 0)), none, [9], []⟩])
 (.cond (.t 50)
 (.reg [⟨some 51, .mov (.t 12), none, [], []⟩,
 ⟨some 52, .bin .add (.t 51) (.c (.int .i64 1)), none, [0], []⟩,
 ⟨some 10, .mov (.t 52), none, [1, 0, 1], []⟩])
 (.reg [⟨some 53, .mov (.t 12), none, [], []⟩,
 ⟨some 11, .mov (.t 53), none, [0, 0], []⟩]))))))))
 (.seq (.seq (.reg [⟨some 54, .mov (.t 1), none, [], []⟩,
 ⟨some 13, .mov (.t 54), none, [0, 0], []⟩])
 (.block 2
 (.loop
 (.seq (.seq (.reg [⟨some 55, .mov (.t 13), none, [], []⟩,
 ⟨some 56, .mov (.t 10), none, [], []⟩,
 ⟨some 57, .bin .sub (.t 56) (.c (.int .i64 1)), none, [1], []⟩,
 ⟨some 58, .bin .lss (.t 55) (.t 57), none, [0, 2], []⟩])
 (.cond (.t 58)
 (.skip)
 (.exit 2)))
 (.seq (.block 3
 (.dreg [⟨some 61, .mov (.t 0), none, [], []⟩,
 ⟨some 62, .mov (.t 13), none, [], []⟩,
 ⟨some 63, .mov (.t 0), none, [], []⟩,
 ⟨some 64, .mov (.t 13), none, [], []⟩,
 ⟨some 65, .bin .add (.t 64) (.c (.int .i64 1)), none, [3], []⟩,
 ⟨some 66, .mov (.t 0), none, [], []⟩,
 ⟨some 67, .mov (.t 13), none, [], []⟩,
 ⟨some 68, .bin .add (.t 67) (.c (.int .i64 1)), none, [6], []⟩,
 ⟨some 69, .iad 3 (.t 66) (.t 68), none, [5, 7], []⟩,
 ⟨some 70, .load 3 true (.t 69), none, [8], []⟩,
 ⟨some 71, .mov (.t 0), none, [], []⟩,
 ⟨some 72, .mov (.t 13), none, [], []⟩,
 ⟨some 73, .iad 3 (.t 71) (.t 72), none, [10, 11], []⟩,
 ⟨some 74, .load 3 true (.t 73), none, [12], []⟩,
 ⟨some 75, .iad 3 (.t 61) (.t 62), none, [0, 1, 0, 1, 5, 6, 7, 8, 9, 13], []⟩,
 ⟨none, .store 3 (.t 75) (.t 70), none, [14, 9, 0, 1, 5, 6, 7, 8, 9, 13], []⟩,
 ⟨some 76, .iad 3 (.t 63) (.t 65), none, [2, 4, 0, 1, 2, 3, 4, 5, 6, 7, 8, 9, 10, 11, 12, 13, 14, 15], []⟩,
 ⟨none, .store 3 (.t 76) (.t 74), none, [16, 13, 15, 0, 1, 2, 3, 4, 5, 6, 7, 8, 9, 10, 11, 12, 13, 14, 15], []⟩]))
 (.reg [⟨some 59, .mov (.t 13), none, [], []⟩,
 ⟨some 60, .bin .add (.t 59) (.c (.int .i64 1)), none, [0], []⟩,
 ⟨some 13, .mov (.t 60), none, [1, 0, 1], []⟩]))))))
 (.ret)))))
 (.skip)))
(.seq (.seq (.reg [⟨some 77, .mov (.t 3), none, [], []⟩,
 ⟨some 78, .mov (.t 2), none, [], []⟩,
 ⟨some 79, .bin .sub (.t 77) (.t 78), none, [0, 1], []⟩,
 ⟨some 80, .bin .eql (.t 79) (.c (.int .i64 1)), none, [2], []⟩])
(.cond (.t 80)
 (.seq (.reg [⟨some 81, .mov (.t 1), none, [], []⟩,
 ⟨some 14, .mov (.t 81), none, [0, 0], []⟩])
 (.seq (.reg [⟨some 82, .mov (.t 2), none, [], []⟩,
 ⟨some 15, .mov (.t 82), none, [0, 0], []⟩])
 (.seq (.block 4
 (.loop
 (.seq (.seq (.reg [⟨some 83, .mov (.t 14), none, [], []⟩,
 ⟨some 84, .mov (.t 15), none, [], []⟩,
 ⟨some 85, .bin .lss (.t 83) (.t 84), none, [0, 1], []⟩])
 (.cond (.t 85)
 (.skip)
 (.exit 4)))
 (.block 5
 (.seq (.reg [⟨some 86, .mov (.t 14), none, [], []⟩,
 ⟨some 87, .mov (.t 15), none, [], []⟩,
 ⟨some 88, .bin .add (.t 86) (.t 87), none, [0, 1], []⟩,
 ⟨some 89, .conv .u64 (.t 88), none, [2], []⟩,
 ⟨some 90, .bin .shr (.t 89) (.c (.int .u64 1)), none, [3], []⟩,
 ⟨some 91, .conv .i64 (.t 90), none, [4], []⟩,
 ⟨some 16, .mov (.t 91), none, [5, 0, 1, 2, 3, 4, 5], []⟩])
 (.seq (.dreg [⟨some 92, .mov (.t 4), none, [], []⟩,
 ⟨some 93, .mov (.t 0), none, [], []⟩,
 ⟨some 94, .mov (.t 2), none, [], []⟩,
 ⟨some 95, .iad 3 (.t 93) (.t 94), none, [1, 2], []⟩,
 ⟨some 96, .load 3 true (.t 95), none, [3], []⟩,
 ⟨some 97, .mov (.t 0), none, [], []⟩,
 ⟨some 98, .mov (.t 16), none, [], []⟩,
 ⟨some 99, .iad 3 (.t 97) (.t 98), none, [5, 6], []⟩,
 ⟨some 100, .load 3 true (.t 99), none, [7], []⟩,
 ⟨some 101, .callv (.t 92) [(.t 96), (.t 100)], none, [0, 4, 8], [(0, 0)]⟩,
 ⟨some 102, .bin .lss (.t 101) (.c (.int .i64 0)), none, [9], []⟩,
 ⟨some 103, .un .not (.t 102), none, [10], []⟩])
 (.cond (.t 103)
 (.reg [⟨some 104, .mov (.t 16), none, [], []⟩,
 ⟨some 105, .bin .add (.t 104) (.c (.int .i64 1)), none, [0], []⟩,
 ⟨some 14, .mov (.t 105), none, [1, 0, 1], []⟩])
 (.reg [⟨some 106, .mov (.t 16), none, [], []⟩,
 ⟨some 15, .mov (.t 106), none, [0, 0], []⟩]))))))))
 (.seq (.seq (.reg [⟨some 107, .mov (.t 2), none, [], []⟩,
 ⟨some 17, .mov (.t 107), none, [0, 0], []⟩])
 (.block 6
 (.loop
 (.seq (.seq (.reg [⟨some 108, .mov (.t 17), none, [], []⟩,
 ⟨some 109, .mov (.t 14), none, [], []⟩,
 ⟨some 110, .bin .gtr (.t 108) (.t 109), none, [0, 1], []⟩])
 (.cond (.t 110)
 (.skip)
 (.exit 6)))
 (.seq (.block 7
 (.dreg [⟨some 113, .mov (.t 0), none, [], []⟩,
 ⟨some 114, .mov (.t 17), none, [], []⟩,
 ⟨some 115, .mov (.t 0), none, [], []⟩,
 ⟨some 116, .mov (.t 17), none, [], []⟩,
 ⟨some 117, .bin .sub (.t 116) (.c (.int .i64 1)), none, [3], []⟩,
 ⟨some 118, .mov (.t 0), none, [], []⟩,
 ⟨some 119, .mov (.t 17), none, [], []⟩,
 ⟨some 120, .bin .sub (.t 119) (.c (.int .i64 1)), none, [6], []⟩,
 ⟨some 121, .iad 3 (.t 118) (.t 120), none, [5, 7], []⟩,
 ⟨some 122, .load 3 true (.t 121), none, [8], []⟩,
 ⟨some 123, .mov (.t 0), none, [], []⟩,
 ⟨some 124, .mov (.t 17), none, [], []⟩,
 ⟨some 125, .iad 3 (.t 123) (.t 124), none, [10, 11], []⟩,
 ⟨some 126, .load 3 true (.t 125), none, [12], []⟩,
 ⟨some 127, .iad 3 (.t 113) (.t 114), none, [0, 1, 0, 1, 5, 6, 7, 8, 9, 13], []⟩,
 ⟨none, .store 3 (.t 127) (.t 122), none, [14, 9, 0, 1, 5, 6, 7, 8, 9, 13], []⟩,
 ⟨some 128, .iad 3 (.t 115) (.t 117), none, [2, 4, 0, 1, 2, 3, 4, 5, 6, 7, 8, 9, 10, 11, 12, 13, 14, 15], []⟩,
 ⟨none, .store 3 (.t 128) (.t 126), none, [16, 13, 15, 0, 1, 2, 3, 4, 5, 6, 7, 8, 9, 10, 11, 12, 13, 14, 15], []⟩]))
 (.reg [⟨some 111, .mov (.t 17), none, [], []⟩,
 ⟨some 112, .bin .sub (.t 111) (.c (.int .i64 1)), none, [0], []⟩,
 ⟨some 17, .mov (.t 112), none, [1, 0, 1], []⟩]))))))
 (.ret)))))
 (.skip)))
(.seq (.reg [⟨some 129, .mov (.t 1), none, [], []⟩,
 ⟨some 130, .mov (.t 3), none, [], []⟩,
 ⟨some 131, .bin .add (.t 129) (.t 130), none, [0, 1], []⟩,
 ⟨some 132, .conv .u64 (.t 131), none, [2], []⟩,
 ⟨some 133, .bin .shr (.t 132) (.c (.int .u64 1)), none, [3], []⟩,
 ⟨some 134, .conv .i64 (.t 133), none, [4], []⟩,
 ⟨some 18, .mov (.t 134), none, [5, 0, 1, 2, 3, 4, 5], []⟩])
(.seq (.reg [⟨some 135, .mov (.t 18), none, [], []⟩,
 ⟨some 136, .mov (.t 2), none, [], []⟩,
 ⟨some 137, .bin .add (.t 135) (.t 136), none, [0, 1], []⟩,
 ⟨some 19, .mov (.t 137), none, [2, 0, 1, 2], []⟩])
(.seq (.reg [⟨some 20, .mov (.c (.int .i64 0)), none, [], []⟩,
 ⟨some 21, .mov (.c (.int .i64 0)), none, [0], []⟩])
(.seq (.seq (.reg [⟨some 138, .mov (.t 2), none, [], []⟩,
 ⟨some 139, .mov (.t 18), none, [], []⟩,
 ⟨some 140, .bin .gtr (.t 138) (.t 139), none, [0, 1], []⟩])
(.cond (.t 140)
 (.seq (.reg [⟨some 141, .mov (.t 19), none, [], []⟩,
 ⟨some 142, .mov (.t 3), none, [], []⟩,
 ⟨some 143, .bin .sub (.t 141) (.t 142), none, [0, 1], []⟩,
 ⟨some 20, .mov (.t 143), none, [2, 0, 1, 2], []⟩])
 (.reg [⟨some 144, .mov (.t 18), none, [], []⟩,
 ⟨some 21, .mov (.t 144), none, [0, 0], []⟩]))
 (.seq (.reg [⟨some 145, .mov (.t 1), none, [], []⟩,
 ⟨some 20, .mov (.t 145), none, [0, 0], []⟩])
 (.reg [⟨some 146, .mov (.t 2), none, [], []⟩,
 ⟨some 21, .mov (.t 146), none, [0, 0], []⟩]))))
(.seq (.reg [⟨some 147, .mov (.t 19), none, [], []⟩,
 ⟨some 148, .bin .sub (.t 147) (.c (.int .i64 1)), none, [0], []⟩,
 ⟨some 22, .mov (.t 148), none, [1, 0, 1], []⟩])
(.seq (.block 8
 (.loop
 (.seq (.seq (.reg [⟨some 149, .mov (.t 20), none, [], []⟩,
 ⟨some 150, .mov (.t 21), none, [], []⟩,
 ⟨some 151, .bin .lss (.t 149) (.t 150), none, [0, 1], []⟩])
 (.cond (.t 151)
 (.skip)
 (.exit 8)))
 (.block 9
 (.seq (.reg [⟨some 152, .mov (.t 20), none, [], []⟩,
 ⟨some 153, .mov (.t 21), none, [], []⟩,
 ⟨some 154, .bin .add (.t 152) (.t 153), none, [0, 1], []⟩,
 ⟨some 155, .conv .u64 (.t 154), none, [2], []⟩,
 ⟨some 156, .bin .shr (.t 155) (.c (.int .u64 1)), none, [3], []⟩,
 ⟨some 157, .conv .i64 (.t 156), none, [4], []⟩,
 ⟨some 23, .mov (.t 157), none, [5, 0, 1, 2, 3, 4, 5], []⟩])
 (.seq (.dreg [⟨some 158, .mov (.t 4), none, [], []⟩,
 ⟨some 159, .mov (.t 0), none, [], []⟩,
 ⟨some 160, .mov (.t 22), none, [], []⟩,
 ⟨some 161, .mov (.t 23), none, [], []⟩,
 ⟨some 162, .bin .sub (.t 160) (.t 161), none, [2, 3], []⟩,
 ⟨some 163, .iad 3 (.t 159) (.t 162), none, [1, 4], []⟩,
 ⟨some 164, .load 3 true (.t 163), none, [5], []⟩,
 ⟨some 165, .mov (.t 0), none, [], []⟩,
 ⟨some 166, .mov (.t 23), none, [], []⟩,
 ⟨some 167, .iad 3 (.t 165) (.t 166), none, [7, 8], []⟩,
 ⟨some 168, .load 3 true (.t 167), none, [9], []⟩,
 ⟨some 169, .callv (.t 158) [(.t 164), (.t 168)], none, [0, 6, 10], [(0, 0)]⟩,
 ⟨some 170, .bin .lss (.t 169) (.c (.int .i64 0)), none, [11], []⟩,
 ⟨some 171, .un .not (.t 170), none, [12], []⟩])
 (.cond (.t 171)
 (.reg [⟨some 172, .mov (.t 23), none, [], []⟩,
 ⟨some 173, .bin .add (.t 172) (.c (.int .i64 1)), none, [0], []⟩,
 ⟨some 20, .mov (.t 173), none, [1, 0, 1], []⟩])
 (.reg [⟨some 174, .mov (.t 23), none, [], []⟩,
 ⟨some 21, .mov (.t 174), none, [0, 0], []⟩]))))))))
(.seq (.reg [⟨some 175, .mov (.t 19), none, [], []⟩,
 ⟨some 176, .mov (.t 20), none, [], []⟩,
 ⟨some 177, .bin .sub (.t 175) (.t 176), none, [0, 1], []⟩,
 ⟨some 24, .mov (.t 177), none, [2, 0, 1, 2], []⟩])
(.seq (.seq (.reg [⟨some 178, .mov (.t 20), none, [], []⟩,
 ⟨some 179, .mov (.t 2), none, [], []⟩,
 ⟨some 180, .bin .lss (.t 178) (.t 179), none, [0, 1], []⟩,
 ⟨some 181, .mov (.t 180), none, [2], []⟩,
 ⟨some 182, .mov (.t 2), some (181, true), [3], []⟩,
 ⟨some 183, .mov (.t 24), some (181, true), [3], []⟩,
 ⟨some 184, .bin .lss (.t 182) (.t 183), some (181, true), [4, 5, 3], []⟩,
 ⟨some 185, .pick (.t 181) (.t 184) (.c (.bool false)), none, [3, 6], []⟩])
(.cond (.t 185)
 (.reg [⟨some 186, .mov (.t 0), none, [], []⟩,
 ⟨some 187, .mov (.t 20), none, [], []⟩,
 ⟨some 188, .mov (.t 2), none, [], []⟩,
 ⟨some 189, .mov (.t 24), none, [], []⟩,
 ⟨some 190, .mov (.t 4), none, [], []⟩,
 ⟨some 191, .call 101 [(.t 186), (.t 187), (.t 188), (.t 189), (.t 190)], none, [0, 1, 2, 3, 4], []⟩])
 (.skip)))
(.seq (.seq (.reg [⟨some 192, .mov (.t 1), none, [], []⟩,
 ⟨some 193, .mov (.t 20), none, [], []⟩,
 ⟨some 194, .bin .lss (.t 192) (.t 193), none, [0, 1], []⟩,
 ⟨some 195, .mov (.t 194), none, [2], []⟩,
 ⟨some 196, .mov (.t 20), some (195, true), [3], []⟩,
 ⟨some 197, .mov (.t 18), some (195, true), [3], []⟩,
 ⟨some 198, .bin .lss (.t 196) (.t 197), some (195, true), [4, 5, 3], []⟩,
 ⟨some 199, .pick (.t 195) (.t 198) (.c (.bool false)), none, [3, 6], []⟩])
(.cond (.t 199)
 (.reg [⟨some 200, .mov (.t 0), none, [], []⟩,
 ⟨some 201, .mov (.t 1), none, [], []⟩,
 ⟨some 202, .mov (.t 20), none, [], []⟩,
 ⟨some 203, .mov (.t 18), none, [], []⟩,
 ⟨some 204, .mov (.t 4), none, [], []⟩,
 ⟨some 205, .call 100 [(.t 200), (.t 201), (.t 202), (.t 203), (.t 204)], none, [0, 1, 2, 3, 4], []⟩])
 (.skip)))
(.seq (.reg [⟨some 206, .mov (.t 18), none, [], []⟩,
 ⟨some 207, .mov (.t 24), none, [], []⟩,
 ⟨some 208, .bin .lss (.t 206) (.t 207), none, [0, 1], []⟩,
 ⟨some 209, .mov (.t 208), none, [2], []⟩,
 ⟨some 210, .mov (.t 24), some (209, true), [3], []⟩,
 ⟨some 211, .mov (.t 3), some (209, true), [3], []⟩,
 ⟨some 212, .bin .lss (.t 210) (.t 211), some (209, true), [4, 5, 3], []⟩,
 ⟨some 213, .pick (.t 209) (.t 212) (.c (.bool false)), none, [3, 6], []⟩])
(.cond (.t 213)
 (.reg [⟨some 214, .mov (.t 0), none, [], []⟩,
 ⟨some 215, .mov (.t 18), none, [], []⟩,
 ⟨some 216, .mov (.t 24), none, [], []⟩,
 ⟨some 217, .mov (.t 3), none, [], []⟩,
 ⟨some 218, .mov (.t 4), none, [], []⟩,
 ⟨some 219, .call 100 [(.t 214), (.t 215), (.t 216), (.t 217), (.t 218)], none, [0, 1, 2, 3, 4], []⟩])
 (.skip))))))))))))),
[], 220⟩
theorem v_slices_symMergeCmpFunc_api_Seg_ok : compF Tryd.prog 100 = some v_slices_symMergeCmpFunc_api_Seg := by kernel_rfl
def v_slices_rotateCmpFunc_api_Seg : VFn := ⟨.seq (.reg [⟨some 12, .mov (.t 2), none, [], []⟩,
 ⟨some 13, .mov (.t 1), none, [], []⟩,
 ⟨some 14, .bin .sub (.t 12) (.t 13), none, [0, 1], []⟩,
 ⟨some 10, .mov (.t 14), none, [2, 0, 1, 2], []⟩])
(.seq (.reg [⟨some 15, .mov (.t 3), none, [], []⟩,
 ⟨some 16, .mov (.t 2), none, [], []⟩,
 ⟨some 17, .bin .sub (.t 15) (.t 16), none, [0, 1], []⟩,
 ⟨some 11, .mov (.t 17), none, [2, 0, 1, 2], []⟩])
(.seq (.block 0
 (.loop
 (.seq (.seq (.reg [⟨some 18, .mov (.t 10), none, [], []⟩,
 ⟨some 19, .mov (.t 11), none, [], []⟩,
 ⟨some 20, .bin .neq (.t 18) (.t 19), none, [0, 1], []⟩])
 (.cond (.t 20)
 (.skip)
 (.exit 0)))
 (.block 1
 (.seq (.reg [⟨some 21, .mov (.t 10), none, [], []⟩,
 ⟨some 22, .mov (.t 11), none, [], []⟩,
 ⟨some 23, .bin .gtr (.t 21) (.t 22), none, [0, 1], []⟩])
 (.cond (.t 23)
 (.seq (.reg [⟨some 24, .mov (.t 0), none, [], []⟩,
 ⟨some 25, .mov (.t 2), none, [], []⟩,
 ⟨some 26, .mov (.t 10), none, [], []⟩,
 ⟨some 27, .bin .sub (.t 25) (.t 26), none, [1, 2], []⟩,
 ⟨some 28, .mov (.t 2), none, [], []⟩,
 ⟨some 29, .mov (.t 11), none, [], []⟩,
 ⟨some 30, .mov (.t 4), none, [], []⟩,
 ⟨some 31, .call 102 [(.t 24), (.t 27), (.t 28), (.t 29), (.t 30)], none, [0, 3, 4, 5, 6], []⟩])
 (.reg [⟨some 32, .mov (.t 10), none, [], []⟩,
 ⟨some 33, .mov (.t 11), none, [], []⟩,
 ⟨some 34, .bin .sub (.t 32) (.t 33), none, [0, 1], []⟩,
 ⟨some 10, .mov (.t 34), none, [2, 0, 1, 2], []⟩]))
 (.seq (.reg [⟨some 35, .mov (.t 0), none, [], []⟩,
 ⟨some 36, .mov (.t 2), none, [], []⟩,
 ⟨some 37, .mov (.t 10), none, [], []⟩,
 ⟨some 38, .bin .sub (.t 36) (.t 37), none, [1, 2], []⟩,
 ⟨some 39, .mov (.t 2), none, [], []⟩,
 ⟨some 40, .mov (.t 11), none, [], []⟩,
 ⟨some 41, .bin .add (.t 39) (.t 40), none, [4, 5], []⟩,
 ⟨some 42, .mov (.t 10), none, [], []⟩,
 ⟨some 43, .bin .sub (.t 41) (.t 42), none, [6, 7], []⟩,
 ⟨some 44, .mov (.t 10), none, [], []⟩,
 ⟨some 45, .mov (.t 4), none, [], []⟩,
 ⟨some 46, .call 102 [(.t 35), (.t 38), (.t 43), (.t 44), (.t 45)], none, [0, 3, 8, 9, 10], []⟩])
 (.reg [⟨some 47, .mov (.t 11), none, [], []⟩,
 ⟨some 48, .mov (.t 10), none, [], []⟩,
 ⟨some 49, .bin .sub (.t 47) (.t 48), none, [0, 1], []⟩,
 ⟨some 11, .mov (.t 49), none, [2, 0, 1, 2], []⟩]))))))))
(.reg [⟨some 50, .mov (.t 0), none, [], []⟩,
 ⟨some 51, .mov (.t 2), none, [], []⟩,
 ⟨some 52, .mov (.t 10), none, [], []⟩,
 ⟨some 53, .bin .sub (.t 51) (.t 52), none, [1, 2], []⟩,
 ⟨some 54, .mov (.t 2), none, [], []⟩,
 ⟨some 55, .mov (.t 10), none, [], []⟩,
 ⟨some 56, .mov (.t 4), none, [], []⟩,
 ⟨some 57, .call 102 [(.t 50), (.t 53), (.t 54), (.t 55), (.t 56)], none, [0, 3, 4, 5, 6], []⟩]))),
[], 58⟩
theorem v_slices_rotateCmpFunc_api_Seg_ok : compF Tryd.prog 101 = some v_slices_rotateCmpFunc_api_Seg := by kernel_rfl
def v_slices_swapRangeCmpFunc_api_Seg : VFn := ⟨.seq (.reg [⟨some 10, .mov (.c (.int .i64 0)), none, [], []⟩])
(.block 0
 (.loop
 (.seq (.seq (.reg [⟨some 11, .mov (.t 10), none, [], []⟩,
 ⟨some 12, .mov (.t 3), none, [], []⟩,
 ⟨some 13, .bin .lss (.t 11) (.t 12), none, [0, 1], []⟩])
 (.cond (.t 13)
 (.skip)
 (.exit 0)))
 (.seq (.block 1
 (.dreg [⟨some 16, .mov (.t 0), none, [], []⟩,
 ⟨some 17, .mov (.t 1), none, [], []⟩,
 ⟨some 18, .mov (.t 10), none, [], []⟩,
 ⟨some 19, .bin .add (.t 17) (.t 18), none, [1, 2], []⟩,
 ⟨some 20, .mov (.t 0), none, [], []⟩,
 ⟨some 21, .mov (.t 2), none, [], []⟩,
 ⟨some 22, .mov (.t 10), none, [], []⟩,
 ⟨some 23, .bin .add (.t 21) (.t 22), none, [5, 6], []⟩,
 ⟨some 24, .mov (.t 0), none, [], []⟩,
 ⟨some 25, .mov (.t 2), none, [], []⟩,
 ⟨some 26, .mov (.t 10), none, [], []⟩,
 ⟨some 27, .bin .add (.t 25) (.t 26), none, [9, 10], []⟩,
 ⟨some 28, .iad 3 (.t 24) (.t 27), none, [8, 11], []⟩,
 ⟨some 29, .load 3 true (.t 28), none, [12], []⟩,
 ⟨some 30, .mov (.t 0), none, [], []⟩,
 ⟨some 31, .mov (.t 1), none, [], []⟩,
 ⟨some 32, .mov (.t 10), none, [], []⟩,
 ⟨some 33, .bin .add (.t 31) (.t 32), none, [15, 16], []⟩,
 ⟨some 34, .iad 3 (.t 30) (.t 33), none, [14, 17], []⟩,
 ⟨some 35, .load 3 true (.t 34), none, [18], []⟩,
 ⟨some 36, .iad 3 (.t 16) (.t 19), none, [0, 3, 0, 1, 2, 3, 8, 9, 10, 11, 12, 13, 19], []⟩,
 ⟨none, .store 3 (.t 36) (.t 29), none, [20, 13, 0, 1, 2, 3, 8, 9, 10, 11, 12, 13, 19], []⟩,
 ⟨some 37, .iad 3 (.t 20) (.t 23), none, [4, 7, 0, 1, 2, 3, 4, 5, 6, 7, 8, 9, 10, 11, 12, 13, 14, 15, 16, 17, 18, 19, 20, 21], []⟩,
 ⟨none, .store 3 (.t 37) (.t 35), none, [22, 19, 21, 0, 1, 2, 3, 4, 5, 6, 7, 8, 9, 10, 11, 12, 13, 14, 15, 16, 17, 18, 19, 20, 21], []⟩]))
 (.reg [⟨some 14, .mov (.t 10), none, [], []⟩,
 ⟨some 15, .bin .add (.t 14) (.c (.int .i64 1)), none, [0], []⟩,
 ⟨some 10, .mov (.t 15), none, [1, 0, 1], []⟩]))))),
[], 38⟩
theorem v_slices_swapRangeCmpFunc_api_Seg_ok : compF Tryd.prog 102 = some v_slices_swapRangeCmpFunc_api_Seg := by kernel_rfl
end Go.Proofs.YtglekfgoadehbaaDoor.V
end
section
set_option linter.unusedSimpArgs false
set_option linter.unusedVariables false
/- slices' functions at api.Seg (printed by gen_sl.py). -/
namespace Go.Proofs.YtglekfgoadehbaaDoor.V
open Go Go.Proofs
set_option maxRecDepth 100000
theorem index_Seg {f : Nat} {fs cs : List AV} {Z : Im} (xs : List Seg) (hn : xs.length ≤ 1000000000000) (t : Tok) (g : Nat → Bool) (Inv : Nat → St → Prop) (st : St) (h0 : Inv 0 st)
    (hs : ∀ k s (hk : k < xs.length), Inv k s → VCalls Tryd.prog Z f (fs ++ [Seg.a xs[k]] ++ cs) s (fun r s' => r = .bool (g k) ∧ Inv (k + 1) s')) :
    VCalls Tryd.prog Z 80 [.sl (xs.map Seg.a) t, .clo f fs cs] st (fun r s => r = .int .i64 (idxI g xs.length) ∧ ∃ j, j ≤ xs.length ∧ Inv j s ∧ (idxI g xs.length = -1 → j = xs.length)) := by
  refine VCalls.of v_slices_IndexFunc_api_Seg_api_Seg_ok (Nat.le_of_ble_eq_true rfl) ?_
  simp only [v_slices_IndexFunc_api_Seg_api_Seg, ↓vD, vU, ↓vMd, vMu, vZ, seval, k_app, k_slc1]
  refine loopf_of (by simp only [asgL, dsts, List.cons_append, List.nil_append, List.append_nil]; rfl) (by simp only [noR, Bool.and_true, Bool.and_false]; rfl) hn (fun k fr s => Inv k s ∧ fr.t 8 = .int .i64 k ∧ ∀ j, j < k → g j = false) ?_ ?_ ?_
  · exact ⟨h0, by simp [↓vD, vU, ↓vMd, vMu, vZ, seval, k_app, k_slc1], by simp⟩
  · rintro k fr s hk hw hf hd ⟨hi, h8, hno⟩
    (repeat' (first | (simp (maxDischargeDepth := 16) only [*, Seg.a, ↓vD, vU, ↓vMd, vMu, vZ, seval, k_app, k_slc1]) | (with_reducible refine gs (fun _ => ?_) (fun _ => ?_)) | (with_reducible refine cs_ (fun _ => ?_) (fun _ => ?_)) | (with_reducible refine appK_a ?_)))
    refine callH_then (hs k s hk hi) ?_
    rintro r s' ⟨rfl, hi'⟩
    (repeat' (first | (simp (maxDischargeDepth := 16) only [*, Seg.a, ↓vD, vU, ↓vMd, vMu, vZ, seval, k_app, k_slc1]) | (with_reducible refine gs (fun _ => ?_) (fun _ => ?_)) | (with_reducible refine cs_ (fun _ => ?_) (fun _ => ?_)) | (with_reducible refine appK_a ?_)))
    · exact ⟨_, St.le.refl _, (idx_hit hk hno (by assumption)).symm, k + 1, hk, hi', fun e => by rw [idx_hit hk hno (by assumption)] at e; omega⟩
    · refine ⟨_, St.le.refl _, hi', fun j hj => ?_⟩
      rcases Nat.lt_succ_iff_lt_or_eq.1 hj with hj | rfl
      · exact hno j hj
      · assumption
  · rintro fr s hf hd ⟨hi, h8, hno⟩
    (repeat' (first | (simp (maxDischargeDepth := 16) only [*, ↓vD, vU, ↓vMd, vMu, vZ, seval, k_app, k_slc1]) | (with_reducible refine gs (fun _ => ?_) (fun _ => ?_)) | (with_reducible refine cs_ (fun _ => ?_) (fun _ => ?_)) | (with_reducible refine appK_a ?_)))
    exact ⟨_, St.le.refl _, (idx_none hno).symm, _, Nat.le_refl _, hi, fun _ => rfl⟩
theorem contains_Seg {f : Nat} {fs cs : List AV} {Z : Im} (xs : List Seg) (hn : xs.length ≤ 1000000000000) (t : Tok) (g : Nat → Bool) (Inv : Nat → St → Prop) (st : St) (h0 : Inv 0 st)
    (hs : ∀ k s (hk : k < xs.length), Inv k s → VCalls Tryd.prog Z f (fs ++ [Seg.a xs[k]] ++ cs) s (fun r s' => r = .bool (g k) ∧ Inv (k + 1) s')) :
    VCalls Tryd.prog Z 54 [.sl (xs.map Seg.a) t, .clo f fs cs] st (fun r s => r = .bool ((List.range xs.length).any g) ∧ ∃ j, j ≤ xs.length ∧ Inv j s ∧ ((List.range xs.length).any g = false → j = xs.length)) := by
  refine VCalls.of v_slices_ContainsFunc_api_Seg_api_Seg_ok (Nat.le_of_ble_eq_true rfl) ?_
  simp only [v_slices_ContainsFunc_api_Seg_api_Seg, ↓vD, vU, ↓vMd, vMu, vZ, seval, k_app, k_slc1]
  refine callH_then (index_Seg xs hn t g Inv st h0 hs) ?_
  rintro r s ⟨rfl, j, hj, hi, hE⟩
  (repeat' (first | (simp (maxDischargeDepth := 16) only [*, ↓vD, vU, ↓vMd, vMu, vZ, seval, k_app, k_slc1]) | (with_reducible refine gs (fun _ => ?_) (fun _ => ?_)) | (with_reducible refine cs_ (fun _ => ?_) (fun _ => ?_)) | (with_reducible refine appK_a ?_)))
  refine ⟨_, St.le.refl _, idx_any g _, j, hj, hi, fun e => hE ?_⟩
  have := idx_any g xs.length
  rw [e] at this
  simp only [decide_eq_false_iff_not] at this
  rcases idx_cases g xs.length with h | h
  · exact h
  · omega
theorem contains_pSeg {f : Nat} {fs cs : List AV} (xs : List Seg) (hn : xs.length ≤ 1000000000000) (t : Tok) (g : Seg → Bool)
    (hg : ∀ x, VPure Tryd.prog f (fs ++ [Seg.a x] ++ cs) (.bool (g x))) : VPure Tryd.prog 54 [.sl (xs.map Seg.a) t, .clo f fs cs] (.bool (xs.any g)) := by
  intro Z st
  refine (contains_Seg xs hn t (fun k => (xs[k]?.map g).getD false) (fun _ s => s = st) st rfl (fun k s hk e => ?_)).mono (fun r s ⟨h1, _, _, h2, _⟩ => ⟨h1.trans (by rw [any_range]), h2⟩)
  subst e
  rw [List.getElem?_eq_getElem hk]
  exact hg _ _ _
end Go.Proofs.YtglekfgoadehbaaDoor.V
end
section
set_option linter.unusedSimpArgs false
set_option linter.unusedVariables false
/- The compiled functions of the package rle (printed by Print.lean of this work). -/
namespace Go.Proofs.YtglekfgoadehbaaDoor.V
open Go Go.Proofs
def v_rle_Box : VFn := ⟨.seq (.reg [⟨some 5, .box (.t 2), none, [], []⟩,
 ⟨some 6, .mov (.c (.sl [] .full)), none, [], []⟩,
 ⟨some 7, .mov (.c (.int .i64 0)), none, [1], []⟩])
(.seq (.seq (.reg [⟨some 8, .mov (.t 0), none, [], []⟩,
 ⟨some 9, .mov (.t 1), none, [], []⟩,
 ⟨some 10, .bin .gtr (.t 8) (.t 9), none, [0, 1], []⟩])
(.cond (.t 10)
 (.seq (.reg [⟨some 6, .mov (.c (.sl [] .full)), none, [], []⟩,
 ⟨some 7, .mov (.c (.int .i64 2)), none, [0, 0], []⟩])
 (.ret))
 (.skip)))
(.seq (.reg [⟨some 11, .mov (.t 0), none, [], []⟩,
 ⟨some 12, .load 2 true (.t 5), none, [], []⟩,
 ⟨some 13, .build [(.int .i64 0), (.int .i64 0), (.int .i64 0)] [(0, 1, (.t 11)), (1, 2, (.t 12))], none, [0, 1], []⟩,
 ⟨some 14, .mov (.t 1), none, [], []⟩,
 ⟨some 15, .build [(.int .i64 0), (.int .i64 0), (.int .i64 0)] [(0, 1, (.t 14))], none, [3], []⟩,
 ⟨some 16, .bsl 3 [(.t 13), (.t 15)], none, [2, 4], []⟩,
 ⟨some 17, .call 47 [(.t 16)], none, [5], []⟩,
 ⟨some 18, .ext (.t 17) 0, none, [6], []⟩,
 ⟨some 19, .ext (.t 17) 1, none, [6], []⟩,
 ⟨some 6, .mov (.t 18), none, [7, 6, 0, 1, 2, 3, 4, 5, 6, 7, 8], []⟩,
 ⟨some 7, .mov (.t 19), none, [8, 9, 0, 1, 2, 3, 4, 5, 6, 7, 8, 9], []⟩])
(.ret))),
[.t 6, .t 7], 20⟩
theorem v_rle_Box_ok : compF Tryd.prog 29 = some v_rle_Box := by kernel_rfl
def v_rle_May : VFn := ⟨.seq (.reg [⟨some 2, .mov (.c (.bool false)), none, [], []⟩])
(.seq (.reg [⟨some 5, .build [(.int .i64 0), (.int .i64 0)] [], none, [], []⟩,
 ⟨some 3, .alloc [(.int .i64 0), (.int .i64 0)], none, [], []⟩,
 ⟨some 4, .alloc [(.int .i64 0)], none, [], []⟩,
 ⟨none, .store 2 (.t 3) (.t 5), none, [1, 0, 0, 1, 2], []⟩,
 ⟨none, .store 1 (.t 4) (.c (.int .i64 (-1125899906842625))), none, [2, 3, 0, 1, 2, 3], []⟩])
(.seq (.reg [⟨some 6, .mov (.t 0), none, [], []⟩,
 ⟨some 7, .mkf 55 [] [(.t 3), (.t 4)], none, [], []⟩,
 ⟨some 8, .call 54 [(.t 6), (.t 7)], none, [0, 1], []⟩,
 ⟨some 9, .un .not (.t 8), none, [2], []⟩,
 ⟨some 2, .mov (.t 9), none, [3, 2, 0, 1, 2, 3], []⟩])
(.ret))),
[.t 2], 10⟩
theorem v_rle_May_ok : compF Tryd.prog 33 = some v_rle_May := by kernel_rfl
def v_rle_At : VFn := ⟨.seq (.reg [⟨some 4, .alloc [(.int .i64 0), (.int .i64 0)], none, [], []⟩])
(.scope
 (.seq (.seq (.reg [⟨some 8, .mov (.t 0), none, [], []⟩,
 ⟨some 9, .call 72 [(.t 8)], none, [0], []⟩,
 ⟨some 10, .un .not (.t 9), none, [1], []⟩])
 (.cond (.t 10)
 (.seq (.reg [⟨some 11, .mov (.t 0), none, [], []⟩,
 ⟨some 12, .mov (.t 1), none, [], []⟩,
 ⟨some 13, .call 73 [(.t 11), (.t 12)], none, [0, 1], []⟩,
 ⟨none, .store 2 (.t 4) (.t 13), none, [2, 2, 0, 1, 2], []⟩])
 (.ret))
 (.skip)))
 (.seq (.reg [⟨some 14, .mov (.t 0), none, [], []⟩,
 ⟨some 15, .len (.t 14), none, [0], []⟩,
 ⟨some 5, .mov (.c (.int .i64 0)), none, [], []⟩,
 ⟨some 6, .mov (.t 15), none, [1, 2, 0, 1, 2], []⟩])
 (.seq (.label 0)
 (.seq (.seq (.reg [⟨some 16, .mov (.t 5), none, [], []⟩,
 ⟨some 17, .mov (.t 6), none, [], []⟩,
 ⟨some 18, .bin .lss (.t 16) (.t 17), none, [0, 1], []⟩])
 (.cond (.t 18)
 (.seq (.reg [⟨some 19, .mov (.t 5), none, [], []⟩,
 ⟨some 20, .mov (.t 6), none, [], []⟩,
 ⟨some 21, .bin .add (.t 19) (.t 20), none, [0, 1], []⟩,
 ⟨some 22, .bin .quo (.t 21) (.c (.int .i64 2)), none, [2], []⟩,
 ⟨some 7, .mov (.t 22), none, [3, 0, 1, 2, 3], []⟩])
 (.seq (.seq (.reg [⟨some 23, .mov (.t 0), none, [], []⟩,
 ⟨some 24, .mov (.t 7), none, [], []⟩,
 ⟨some 25, .iad 3 (.t 23) (.t 24), none, [0, 1], []⟩,
 ⟨some 26, .fad 0 (.t 25), none, [2], []⟩,
 ⟨some 27, .load 1 false (.t 26), none, [3], []⟩,
 ⟨some 28, .mov (.t 1), none, [], []⟩,
 ⟨some 29, .bin .leq (.t 27) (.t 28), none, [4, 5], []⟩])
 (.cond (.t 29)
 (.reg [⟨some 30, .mov (.t 7), none, [], []⟩,
 ⟨some 31, .bin .add (.t 30) (.c (.int .i64 1)), none, [0], []⟩,
 ⟨some 5, .mov (.t 31), none, [1, 0, 1], []⟩])
 (.reg [⟨some 32, .mov (.t 7), none, [], []⟩,
 ⟨some 6, .mov (.t 32), none, [0, 0], []⟩])))
 (.goto 0)))
 (.skip)))
 (.seq (.seq (.reg [⟨some 33, .mov (.t 5), none, [], []⟩,
 ⟨some 34, .bin .eql (.t 33) (.c (.int .i64 0)), none, [0], []⟩])
 (.cond (.t 34)
 (.seq (.reg [⟨some 35, .build [(.int .i64 0), (.int .i64 0)] [], none, [], []⟩,
 ⟨none, .store 2 (.t 4) (.t 35), none, [0, 0], []⟩])
 (.ret))
 (.skip)))
 (.seq (.reg [⟨some 36, .mov (.t 0), none, [], []⟩,
 ⟨some 37, .mov (.t 5), none, [], []⟩,
 ⟨some 38, .bin .sub (.t 37) (.c (.int .i64 1)), none, [1], []⟩,
 ⟨some 39, .iad 3 (.t 36) (.t 38), none, [0, 2], []⟩,
 ⟨some 40, .fad 1 (.t 39), none, [3], []⟩,
 ⟨some 41, .load 2 true (.t 40), none, [4], []⟩,
 ⟨none, .store 2 (.t 4) (.t 41), none, [5, 0, 1, 2, 3, 4, 5], []⟩])
 (.ret))))))) 0
 (.seq (.skip)
 (.seq (.seq (.reg [⟨some 16, .mov (.t 5), none, [], []⟩,
 ⟨some 17, .mov (.t 6), none, [], []⟩,
 ⟨some 18, .bin .lss (.t 16) (.t 17), none, [0, 1], []⟩])
 (.cond (.t 18)
 (.seq (.reg [⟨some 19, .mov (.t 5), none, [], []⟩,
 ⟨some 20, .mov (.t 6), none, [], []⟩,
 ⟨some 21, .bin .add (.t 19) (.t 20), none, [0, 1], []⟩,
 ⟨some 22, .bin .quo (.t 21) (.c (.int .i64 2)), none, [2], []⟩,
 ⟨some 7, .mov (.t 22), none, [3, 0, 1, 2, 3], []⟩])
 (.seq (.seq (.reg [⟨some 23, .mov (.t 0), none, [], []⟩,
 ⟨some 24, .mov (.t 7), none, [], []⟩,
 ⟨some 25, .iad 3 (.t 23) (.t 24), none, [0, 1], []⟩,
 ⟨some 26, .fad 0 (.t 25), none, [2], []⟩,
 ⟨some 27, .load 1 false (.t 26), none, [3], []⟩,
 ⟨some 28, .mov (.t 1), none, [], []⟩,
 ⟨some 29, .bin .leq (.t 27) (.t 28), none, [4, 5], []⟩])
 (.cond (.t 29)
 (.reg [⟨some 30, .mov (.t 7), none, [], []⟩,
 ⟨some 31, .bin .add (.t 30) (.c (.int .i64 1)), none, [0], []⟩,
 ⟨some 5, .mov (.t 31), none, [1, 0, 1], []⟩])
 (.reg [⟨some 32, .mov (.t 7), none, [], []⟩,
 ⟨some 6, .mov (.t 32), none, [0, 0], []⟩])))
 (.goto 0)))
 (.skip)))
 (.seq (.seq (.reg [⟨some 33, .mov (.t 5), none, [], []⟩,
 ⟨some 34, .bin .eql (.t 33) (.c (.int .i64 0)), none, [0], []⟩])
 (.cond (.t 34)
 (.seq (.reg [⟨some 35, .build [(.int .i64 0), (.int .i64 0)] [], none, [], []⟩,
 ⟨none, .store 2 (.t 4) (.t 35), none, [0, 0], []⟩])
 (.ret))
 (.skip)))
 (.seq (.reg [⟨some 36, .mov (.t 0), none, [], []⟩,
 ⟨some 37, .mov (.t 5), none, [], []⟩,
 ⟨some 38, .bin .sub (.t 37) (.c (.int .i64 1)), none, [1], []⟩,
 ⟨some 39, .iad 3 (.t 36) (.t 38), none, [0, 2], []⟩,
 ⟨some 40, .fad 1 (.t 39), none, [3], []⟩,
 ⟨some 41, .load 2 true (.t 40), none, [4], []⟩,
 ⟨none, .store 2 (.t 4) (.t 41), none, [5, 0, 1, 2, 3, 4, 5], []⟩])
 (.ret)))))),
[.c 4 2 true], 42⟩
theorem v_rle_At_ok : compF Tryd.prog 46 = some v_rle_At := by kernel_rfl
def v_rle_Of : VFn := ⟨.seq (.reg [⟨some 2, .mov (.c (.sl [] .full)), none, [], []⟩,
 ⟨some 3, .mov (.c (.int .i64 0)), none, [0], []⟩])
(.seq (.seq (.reg [⟨some 4, .mov (.t 0), none, [], []⟩,
 ⟨some 5, .call 54 [(.t 4), (.c (.clo 74 [] []))], none, [0], []⟩,
 ⟨some 6, .un .not (.t 5), none, [1], []⟩])
(.cond (.t 6)
 (.seq (.reg [⟨some 7, .mov (.t 0), none, [], []⟩,
 ⟨some 8, .call 75 [(.t 7)], none, [0], []⟩,
 ⟨some 2, .mov (.t 8), none, [1, 1, 0, 1], []⟩,
 ⟨some 3, .mov (.c (.int .i64 0)), none, [2, 0, 1, 2], []⟩])
 (.ret))
 (.skip)))
(.seq (.reg [⟨some 2, .mov (.c (.sl [] .full)), none, [], []⟩,
 ⟨some 3, .mov (.c (.int .i64 10)), none, [0, 0], []⟩])
(.ret))),
[.t 2, .t 3], 9⟩
theorem v_rle_Of_ok : compF Tryd.prog 47 = some v_rle_Of := by kernel_rfl
def v_rle_May_1 : VFn := ⟨.seq (.reg [⟨some 3, .box (.t 0), none, [], []⟩,
 ⟨some 4, .mov (.c (.bool false)), none, [], []⟩])
(.seq (.reg [⟨some 6, .load 3 true (.t 3), none, [], []⟩,
 ⟨some 7, .call 56 [(.t 6)], none, [0], []⟩,
 ⟨some 8, .un .not (.t 7), none, [1], []⟩,
 ⟨some 9, .mov (.t 8), none, [2, 1], []⟩,
 ⟨some 10, .fad 1 (.t 3), some (9, false), [3], []⟩,
 ⟨some 11, .load 2 true (.t 10), some (9, false), [4, 3], []⟩,
 ⟨some 12, .load 2 true (.t 1), some (9, false), [3], []⟩,
 ⟨some 13, .eqs false [0, 0] (.t 11) (.t 12), some (9, false), [5, 6, 3], []⟩,
 ⟨some 14, .pick (.t 9) (.c (.bool true)) (.t 13), none, [3, 7], []⟩,
 ⟨some 15, .mov (.t 14), none, [8, 3], []⟩,
 ⟨some 16, .fad 0 (.t 3), some (15, false), [9], []⟩,
 ⟨some 17, .load 1 false (.t 16), some (15, false), [10, 9], []⟩,
 ⟨some 18, .load 1 false (.t 2), some (15, false), [9], []⟩,
 ⟨some 19, .bin .leq (.t 17) (.t 18), some (15, false), [11, 12, 9], []⟩,
 ⟨some 20, .pick (.t 15) (.c (.bool true)) (.t 19), none, [9, 13], []⟩,
 ⟨some 5, .mov (.t 20), none, [14, 9, 0, 1, 2, 3, 4, 5, 6, 7, 8, 9, 10, 11, 12, 13, 14], []⟩])
(.seq (.dreg [⟨some 21, .fad 1 (.t 3), none, [], []⟩,
 ⟨some 22, .load 2 true (.t 21), none, [0], []⟩,
 ⟨some 23, .fad 0 (.t 3), none, [], []⟩,
 ⟨some 24, .load 1 false (.t 23), none, [2], []⟩,
 ⟨none, .store 2 (.t 1) (.t 22), none, [1, 0, 1], [(3, 23)]⟩,
 ⟨none, .store 1 (.t 2) (.t 24), none, [3, 4, 0, 1, 2, 3, 4], []⟩])
(.seq (.reg [⟨some 25, .mov (.t 5), none, [], []⟩,
 ⟨some 4, .mov (.t 25), none, [0, 0], []⟩])
(.ret)))),
[.t 4], 26⟩
theorem v_rle_May_1_ok : compF Tryd.prog 55 = some v_rle_May_1 := by kernel_rfl
def v_rle_in : VFn := ⟨.seq (.reg [⟨some 1, .box (.t 0), none, [], []⟩,
 ⟨some 2, .mov (.c (.bool false)), none, [], []⟩])
(.seq (.reg [⟨some 3, .fad 0 (.t 1), none, [], []⟩,
 ⟨some 4, .load 1 false (.t 3), none, [0], []⟩,
 ⟨some 5, .bin .geq (.t 4) (.c (.int .i64 (-1125899906842624))), none, [1], []⟩,
 ⟨some 6, .mov (.t 5), none, [2], []⟩,
 ⟨some 7, .fad 0 (.t 1), some (6, true), [3], []⟩,
 ⟨some 8, .load 1 false (.t 7), some (6, true), [4, 3], []⟩,
 ⟨some 9, .bin .leq (.t 8) (.c (.int .i64 1125899906842624)), some (6, true), [5, 3], []⟩,
 ⟨some 10, .pick (.t 6) (.t 9) (.c (.bool false)), none, [3, 6], []⟩,
 ⟨some 11, .mov (.t 10), none, [7, 3], []⟩,
 ⟨some 12, .fad 1 (.t 1), some (11, true), [8], []⟩,
 ⟨some 13, .load 2 true (.t 12), some (11, true), [9, 8], []⟩,
 ⟨some 14, .call 43 [(.t 13)], some (11, true), [10, 8, 8], []⟩,
 ⟨some 15, .pick (.t 11) (.t 14) (.c (.bool false)), none, [8, 11], []⟩,
 ⟨some 2, .mov (.t 15), none, [12, 11, 0, 1, 2, 3, 4, 5, 6, 7, 8, 9, 10, 11, 12], []⟩])
(.ret)),
[.t 2], 16⟩
theorem v_rle_in_ok : compF Tryd.prog 56 = some v_rle_in := by kernel_rfl
def v_rle_rises : VFn := ⟨.seq (.reg [⟨some 2, .mov (.c (.bool false)), none, [], []⟩])
(.seq (.reg [⟨some 3, .mov (.t 0), none, [], []⟩,
 ⟨some 4, .mov (.t 0), none, [], []⟩,
 ⟨some 5, .mkf 86 [(.t 4)] [], none, [1], []⟩,
 ⟨some 6, .call 85 [(.t 3), (.t 5)], none, [0, 2], []⟩,
 ⟨some 2, .mov (.t 6), none, [3, 3, 0, 1, 2, 3], []⟩])
(.ret)),
[.t 2], 7⟩
theorem v_rle_rises_ok : compF Tryd.prog 72 = some v_rle_rises := by kernel_rfl
def v_rle_slow : VFn := ⟨.seq (.reg [⟨some 4, .alloc [(.int .i64 0), (.int .i64 0)], none, [], []⟩])
(.seq (.reg [⟨some 5, .alloc [(.int .i64 0), (.int .i64 0)], none, [], []⟩])
(.seq (.seq (.reg [⟨some 8, .mov (.t 0), none, [], []⟩,
 ⟨some 9, .len (.t 8), none, [0], []⟩,
 ⟨some 10, .mov (.c (.int .i64 0)), none, [], []⟩])
(.block 0
 (.loop
 (.seq (.reg [⟨some 11, .bin .lss (.t 10) (.t 9), none, [], []⟩])
 (.seq (.cond (.t 11)
 (.skip)
 (.exit 0))
 (.seq (.block 1
 (.seq (.reg [⟨some 12, .iad 3 (.t 8) (.t 10), none, [], []⟩,
 ⟨some 13, .load 3 true (.t 12), none, [0], []⟩,
 ⟨some 7, .alloc [(.int .i64 0), (.int .i64 0), (.int .i64 0)], none, [], []⟩,
 ⟨none, .store 3 (.t 7) (.t 13), none, [2, 1, 0, 1, 2], []⟩])
 (.seq (.reg [⟨some 14, .fad 0 (.t 7), none, [], []⟩,
 ⟨some 15, .load 1 false (.t 14), none, [0], []⟩,
 ⟨some 16, .mov (.t 1), none, [], []⟩,
 ⟨some 17, .bin .leq (.t 15) (.t 16), none, [1, 2], []⟩])
 (.cond (.t 17)
 (.reg [⟨some 18, .fad 1 (.t 7), none, [], []⟩,
 ⟨some 19, .load 2 true (.t 18), none, [0], []⟩,
 ⟨none, .store 2 (.t 5) (.t 19), none, [1, 0, 1], []⟩])
 (.skip)))))
 (.reg [⟨some 20, .bin .add (.t 10) (.c (.int .i64 1)), none, [], []⟩,
 ⟨some 10, .mov (.t 20), none, [0], []⟩])))))))
(.seq (.reg [⟨some 21, .load 2 true (.t 5), none, [], []⟩,
 ⟨none, .store 2 (.t 4) (.t 21), none, [0, 0], []⟩])
(.ret)))),
[.c 4 2 true], 22⟩
theorem v_rle_slow_ok : compF Tryd.prog 73 = some v_rle_slow := by kernel_rfl
def v_rle_Of_1 : VFn := ⟨.seq (.reg [⟨some 1, .box (.t 0), none, [], []⟩,
 ⟨some 2, .mov (.c (.bool false)), none, [], []⟩])
(.seq (.reg [⟨some 3, .load 3 true (.t 1), none, [], []⟩,
 ⟨some 4, .call 56 [(.t 3)], none, [0], []⟩,
 ⟨some 5, .un .not (.t 4), none, [1], []⟩,
 ⟨some 2, .mov (.t 5), none, [2, 1, 0, 1, 2], []⟩])
(.ret)),
[.t 2], 6⟩
theorem v_rle_Of_1_ok : compF Tryd.prog 74 = some v_rle_Of_1 := by kernel_rfl
def v_rle_folded : VFn := ⟨.seq (.reg [⟨some 2, .mov (.c (.sl [] .full)), none, [], []⟩])
(.seq (.reg [⟨some 9, .mov (.t 0), none, [], []⟩,
 ⟨some 10, .call 87 [(.t 9)], none, [0], []⟩,
 ⟨some 3, .mov (.t 10), none, [1, 1, 0, 1], []⟩])
(.seq (.reg [⟨some 11, .mov (.t 3), none, [], []⟩,
 ⟨some 12, .mov (.t 3), none, [], []⟩,
 ⟨some 13, .mkf 86 [(.t 12)] [], none, [1], []⟩,
 ⟨some 14, .call 88 [(.t 11), (.t 13)], none, [0, 2], []⟩])
(.seq (.reg [⟨some 4, .alloc [(.sl [] .full)], none, [], []⟩])
(.seq (.reg [⟨some 5, .alloc [(.int .i64 0), (.int .i64 0)], none, [], []⟩])
(.seq (.reg [⟨some 15, .mkf 89 [] [(.t 5), (.t 4)], none, [], []⟩,
 ⟨some 6, .mov (.t 15), none, [0, 0], []⟩])
(.seq (.seq (.reg [⟨some 16, .mov (.t 3), none, [], []⟩,
 ⟨some 17, .len (.t 16), none, [0], []⟩,
 ⟨some 18, .mov (.c (.int .i64 0)), none, [], []⟩])
(.block 0
 (.loop
 (.seq (.reg [⟨some 19, .bin .lss (.t 18) (.t 17), none, [], []⟩])
 (.seq (.cond (.t 19)
 (.skip)
 (.exit 0))
 (.seq (.block 1
 (.seq (.reg [⟨some 20, .mov (.t 18), none, [], []⟩,
 ⟨some 21, .iad 3 (.t 16) (.t 18), none, [], []⟩,
 ⟨some 22, .load 3 true (.t 21), none, [1], []⟩,
 ⟨some 8, .alloc [(.int .i64 0), (.int .i64 0), (.int .i64 0)], none, [], []⟩,
 ⟨some 7, .mov (.t 20), none, [0, 0, 1, 2, 3], []⟩,
 ⟨none, .store 3 (.t 8) (.t 22), none, [3, 2, 4, 0, 1, 2, 3, 4], []⟩])
 (.seq (.dreg [⟨some 23, .mov (.t 7), none, [], []⟩,
 ⟨some 24, .bin .add (.t 23) (.c (.int .i64 1)), none, [0], []⟩,
 ⟨some 25, .mov (.t 3), none, [], []⟩,
 ⟨some 26, .len (.t 25), none, [2], []⟩,
 ⟨some 27, .bin .eql (.t 24) (.t 26), none, [1, 3], []⟩,
 ⟨some 28, .mov (.t 27), none, [4], []⟩,
 ⟨some 29, .mov (.t 3), some (28, false), [5], []⟩,
 ⟨some 30, .mov (.t 7), some (28, false), [5], []⟩,
 ⟨some 31, .bin .add (.t 30) (.c (.int .i64 1)), some (28, false), [7, 5], []⟩,
 ⟨some 32, .iad 3 (.t 29) (.t 31), some (28, false), [6, 8, 5], []⟩,
 ⟨some 33, .fad 0 (.t 32), some (28, false), [9, 5], []⟩,
 ⟨some 34, .load 1 false (.t 33), some (28, false), [10, 5], []⟩,
 ⟨some 35, .fad 0 (.t 8), some (28, false), [5], []⟩,
 ⟨some 36, .load 1 false (.t 35), some (28, false), [12, 5], []⟩,
 ⟨some 37, .bin .neq (.t 34) (.t 36), some (28, false), [11, 13, 5], []⟩,
 ⟨some 38, .pick (.t 28) (.c (.bool true)) (.t 37), none, [5, 14], []⟩])
 (.cond (.t 38)
 (.reg [⟨some 39, .mov (.t 6), none, [], []⟩,
 ⟨some 40, .load 3 true (.t 8), none, [], []⟩,
 ⟨some 41, .callv (.t 39) [(.t 40)], none, [0, 1], []⟩])
 (.skip)))))
 (.reg [⟨some 42, .bin .add (.t 18) (.c (.int .i64 1)), none, [], []⟩,
 ⟨some 18, .mov (.t 42), none, [0], []⟩])))))))
(.seq (.reg [⟨some 43, .load 1 false (.t 4), none, [], []⟩,
 ⟨some 2, .mov (.t 43), none, [0, 0], []⟩])
(.ret)))))))),
[.t 2], 44⟩
theorem v_rle_folded_ok : compF Tryd.prog 75 = some v_rle_folded := by kernel_rfl
def v_rle_runs_compare : VFn := ⟨.seq (.reg [⟨some 4, .box (.t 1), none, [], []⟩,
 ⟨some 5, .box (.t 2), none, [], []⟩,
 ⟨some 6, .mov (.c (.int .i64 0)), none, [], []⟩])
(.seq (.block 0
 (.seq (.reg [⟨some 8, .fad 0 (.t 4), none, [], []⟩,
 ⟨some 9, .load 1 false (.t 8), none, [0], []⟩,
 ⟨some 10, .fad 0 (.t 5), none, [], []⟩,
 ⟨some 11, .load 1 false (.t 10), none, [2], []⟩,
 ⟨some 12, .bin .lss (.t 9) (.t 11), none, [1, 3], []⟩,
 ⟨some 7, .mov (.t 12), none, [4], []⟩])
 (.cond (.t 7)
 (.seq (.reg [⟨some 6, .mov (.c (.int .i64 (-1))), none, [], []⟩])
 (.ret))
 (.seq (.reg [⟨some 14, .fad 0 (.t 4), none, [], []⟩,
 ⟨some 15, .load 1 false (.t 14), none, [0], []⟩,
 ⟨some 16, .fad 0 (.t 5), none, [], []⟩,
 ⟨some 17, .load 1 false (.t 16), none, [2], []⟩,
 ⟨some 18, .bin .gtr (.t 15) (.t 17), none, [1, 3], []⟩,
 ⟨some 13, .mov (.t 18), none, [4], []⟩])
 (.cond (.t 13)
 (.seq (.reg [⟨some 6, .mov (.c (.int .i64 1)), none, [], []⟩])
 (.ret))
 (.skip))))))
(.seq (.reg [⟨some 6, .mov (.c (.int .i64 0)), none, [], []⟩])
(.ret))),
[.t 6], 19⟩
theorem v_rle_runs_compare_ok : compF Tryd.prog 86 = some v_rle_runs_compare := by kernel_rfl
def v_rle_folded_1 : VFn := ⟨.seq (.reg [⟨some 3, .box (.t 0), none, [], []⟩])
(.seq (.reg [⟨some 4, .fad 1 (.t 3), none, [], []⟩,
 ⟨some 5, .load 2 true (.t 4), none, [0], []⟩,
 ⟨some 6, .load 2 true (.t 1), none, [], []⟩,
 ⟨some 7, .eqs true [0, 0] (.t 5) (.t 6), none, [1, 2], []⟩])
(.cond (.t 7)
 (.seq (.reg [⟨some 8, .load 1 false (.t 2), none, [], []⟩,
 ⟨some 9, .load 3 true (.t 3), none, [], []⟩,
 ⟨some 10, .bsl 3 [(.t 9)], none, [1], []⟩,
 ⟨some 11, .app 3 24 (.t 8) (.t 10), none, [0, 2], []⟩,
 ⟨none, .store 1 (.t 2) (.t 11), none, [3, 3, 0, 1, 2, 3], []⟩])
 (.reg [⟨some 12, .fad 1 (.t 3), none, [], []⟩,
 ⟨some 13, .load 2 true (.t 12), none, [0], []⟩,
 ⟨none, .store 2 (.t 1) (.t 13), none, [1, 0, 1], []⟩]))
 (.skip))),
[], 14⟩
theorem v_rle_folded_1_ok : compF Tryd.prog 89 = some v_rle_folded_1 := by kernel_rfl
end Go.Proofs.YtglekfgoadehbaaDoor.V
end
section
set_option linter.unusedSimpArgs false
set_option linter.unusedVariables false
/- What the package rle's functions compute (without folded, Of, Box). -/
namespace Go.Proofs.YtglekfgoadehbaaDoor.V
open Go Go.Proofs
set_option maxRecDepth 100000
def inSeg (x : Seg) : Bool := inR x.t && mayV x.v
theorem in_v (t m c : Int) : VPure Tryd.prog 56 [.agg [.int .i64 t, .int .i64 m, .int .i64 c]] (.bool (inSeg ⟨t, ⟨m, c⟩⟩)) := by
  refine VPure.of v_rle_in_ok (Nat.le_of_ble_eq_true rfl) (fun Z st => ?_)
  simp only [v_rle_in, ↓vD, vU, ↓vMd, vMu, vZ, seval, k_app, k_slc1]
  (repeat' (first | (simp (maxDischargeDepth := 16) only [*, inSeg, inR, ↓vD, vU, ↓vMd, vMu, vZ, seval, k_app, k_slc1]) | (with_reducible refine gs (fun _ => ?_) (fun _ => ?_)) | (with_reducible refine cs_ (fun _ => ?_) (fun _ => ?_)) | (with_reducible refine objQ_i (fun _ _ => ?_); repeat with_reducible refine imp_i (fun _ => ?_)) | (with_reducible refine appK_a ?_) | (with_reducible first | refine callH_use (May_v _ _) ?_ | refine pureQ_use (May_v _ _) ?_)))
theorem Of1_v (t m c : Int) : VPure Tryd.prog 74 [.agg [.int .i64 t, .int .i64 m, .int .i64 c]] (.bool (!inSeg ⟨t, ⟨m, c⟩⟩)) := by
  refine VPure.of v_rle_Of_1_ok (Nat.le_of_ble_eq_true rfl) (fun Z st => ?_)
  simp only [v_rle_Of_1, ↓vD, vU, ↓vMd, vMu, vZ, seval, k_app, k_slc1]
  (repeat' (first | (simp (maxDischargeDepth := 16) only [*, ↓vD, vU, ↓vMd, vMu, vZ, seval, k_app, k_slc1]) | (with_reducible refine gs (fun _ => ?_) (fun _ => ?_)) | (with_reducible refine cs_ (fun _ => ?_) (fun _ => ?_)) | (with_reducible refine objQ_i (fun _ _ => ?_); repeat with_reducible refine imp_i (fun _ => ?_)) | (with_reducible refine appK_a ?_) | (with_reducible first | refine callH_use (in_v _ _ _) ?_ | refine pureQ_use (in_v _ _ _) ?_)))
def cmpS (x y : Seg) : Int := if x.t < y.t then -1 else if y.t < x.t then 1 else 0
theorem compare_v (r : AV) (t m c t' m' c' : Int) : VPure Tryd.prog 86 [r, .agg [.int .i64 t, .int .i64 m, .int .i64 c], .agg [.int .i64 t', .int .i64 m', .int .i64 c']] (.int .i64 (cmpS ⟨t, ⟨m, c⟩⟩ ⟨t', ⟨m', c'⟩⟩)) := by
  refine VPure.of v_rle_runs_compare_ok (Nat.le_of_ble_eq_true rfl) (fun Z st => ?_)
  simp only [v_rle_runs_compare, ↓vD, vU, ↓vMd, vMu, vZ, seval, k_app, k_slc1]
  (repeat' (first | (simp (maxDischargeDepth := 16) only [*, cmpS, ↓vD, vU, ↓vMd, vMu, vZ, seval, k_app, k_slc1]) | (with_reducible refine gs (fun _ => ?_) (fun _ => ?_)) | (with_reducible refine cs_ (fun _ => ?_) (fun _ => ?_)) | (with_reducible refine objQ_i (fun _ _ => ?_); repeat with_reducible refine imp_i (fun _ => ?_)) | (with_reducible refine appK_a ?_)))
  · rename_i h; simp at h; simp [h]
  · rename_i h0 h; simp at h h0; rw [if_neg (by omega)]; simp [h]
  · rename_i h0 h; simp at h h0; rw [if_neg (by omega), if_neg (by omega)]
def odd (last : Vec) (ahead : Int) (x : Seg) : Bool := !inSeg x || x.v == last || decide (x.t ≤ ahead)
theorem May1_v {Z : Im} (st : St) (b4 b5 : Nat) (h4 : st.objs b4 = none) (h5 : st.objs b5 = none) (n45 : ¬ b5 = b4) (lm lc ah t m c : Int) :
    VCalls Tryd.prog Z 55 [.agg [.int .i64 t, .int .i64 m, .int .i64 c], .ptr b4 0, .ptr b5 0] ((st.ins b4 (.cells [.int .i64 lm, .int .i64 lc])).ins b5 (.cells [.int .i64 ah]))
      (fun r s => r = .bool (odd ⟨lm, lc⟩ ah ⟨t, ⟨m, c⟩⟩) ∧ s = (st.ins b4 (.cells [.int .i64 m, .int .i64 c])).ins b5 (.cells [.int .i64 t])) := by
  have n54 : ¬ b4 = b5 := fun e => n45 e.symm
  refine VCalls.of v_rle_May_1_ok (Nat.le_of_ble_eq_true rfl) ?_
  simp only [v_rle_May_1, ↓vD, vU, ↓vMd, vMu, vZ, seval, k_app, k_slc1]
  (repeat' (first | (simp (maxDischargeDepth := 16) only [*, ↓vD, vU, ↓vMd, vMu, vZ, seval, k_app, k_slc1]) | (with_reducible refine gs (fun _ => ?_) (fun _ => ?_)) | (with_reducible refine cs_ (fun _ => ?_) (fun _ => ?_)) | (with_reducible refine objQ_i (fun _ _ => ?_); repeat with_reducible refine imp_i (fun _ => ?_)) | (with_reducible refine appK_a ?_) | (with_reducible first | refine callH_use (in_v _ _ _) ?_ | refine pureQ_use (in_v _ _ _) ?_)))
  · rename_i h; simp [odd, h]
  · rename_i h0 h; simp [odd, vec_beq, h]
  · rename_i h0 h; simp only [odd, vec_beq, h0, h, Bool.false_or]
def lastV (xs : List Seg) (k : Nat) : Vec := if k = 0 then v0 else (xs[k - 1]?.map (·.v)).getD v0
def lastT (xs : List Seg) (k : Nat) : Int := if k = 0 then -1125899906842625 else (xs[k - 1]?.map (·.t)).getD 0
def oddI (xs : List Seg) (k : Nat) : Bool := (xs[k]?.map (odd (lastV xs k) (lastT xs k))).getD false
def mayF (xs : List Seg) : Bool := !(List.range xs.length).any (oddI xs)
theorem May_F (xs : List Seg) (hn : xs.length ≤ 1000000000000) (t : Tok) : VPure Tryd.prog 33 [.sl (xs.map Seg.a) t] (.bool (mayF xs)) := by
  refine VPure.of v_rle_May_ok (Nat.le_of_ble_eq_true rfl) (fun Z st => ?_)
  simp only [v_rle_May, ↓vD, vU, ↓vMd, vMu, vZ, seval, k_app, k_slc1]
  (repeat' (first | (simp (maxDischargeDepth := 16) only [*, ↓vD, vU, ↓vMd, vMu, vZ, seval, k_app, k_slc1]) | (with_reducible refine gs (fun _ => ?_) (fun _ => ?_)) | (with_reducible refine cs_ (fun _ => ?_) (fun _ => ?_)) | (with_reducible refine objQ_i (fun _ _ => ?_); repeat with_reducible refine imp_i (fun _ => ?_)) | (with_reducible refine appK_a ?_)))
  rename_i b3 h3 b4 h4 n1 n2
  refine callH_then (contains_Seg xs hn t (oddI xs) (fun k s => s = (st.ins b3 (.cells [.int .i64 (lastV xs k).m, .int .i64 (lastV xs k).c])).ins b4 (.cells [.int .i64 (lastT xs k)])) _ ?_ ?_) ?_
  · simp only [lastV, lastT, v0, if_true, ins_ins, ins_mid _ _ _ _ _ _ n2]
  · rintro k s hk rfl
    refine (May1_v st b3 b4 h3 h4 n1 _ _ _ _ _ _).mono ?_
    rintro r s ⟨rfl, rfl⟩
    refine ⟨?_, ?_⟩
    · simp [oddI, List.getElem?_eq_getElem hk]
    · simp [lastV, lastT, List.getElem?_eq_getElem hk]
  · rintro r s ⟨rfl, j, hj, rfl, hE⟩
    (repeat' (first | (simp (maxDischargeDepth := 16) only [*, mayF, ↓vD, vU, ↓vMd, vMu, vZ, seval, k_app, k_slc1]) | (with_reducible refine gs (fun _ => ?_) (fun _ => ?_)) | (with_reducible refine cs_ (fun _ => ?_) (fun _ => ?_)) | (with_reducible refine objQ_i (fun _ _ => ?_); repeat with_reducible refine imp_i (fun _ => ?_)) | (with_reducible refine appK_a ?_)))
def sameF (f g : List Seg) : Bool := f == g
def Up (xs : List Seg) (i : Nat) : Prop := ∀ j (h : j + 1 < xs.length), i ≤ j → xs[j].t ≤ xs[j + 1].t
noncomputable def upB (xs : List Seg) : Bool := @decide (Up xs 0) (Classical.propDecidable _)
theorem upB_true {xs : List Seg} (h : Up xs 0) : upB xs = true := by unfold upB; exact @decide_eq_true _ (Classical.propDecidable _) h
theorem upB_false {xs : List Seg} (h : ¬ Up xs 0) : upB xs = false := by unfold upB; exact @decide_eq_false _ (Classical.propDecidable _) h
theorem isSorted_v (xs : List Seg) (hn : xs.length ≤ 1000000000000) (t : Tok) (r : AV) : VPure Tryd.prog 85 [.sl (xs.map Seg.a) t, .clo 86 [r] []] (.bool (upB xs)) := by
  refine VPure.of v_slices_IsSortedFunc_api_Seg_api_Seg_ok (Nat.le_of_ble_eq_true rfl) (fun Z st => ?_)
  simp only [v_slices_IsSortedFunc_api_Seg_api_Seg, ↓vD, vU, ↓vMd, vMu, vZ, seval, k_app, k_slc1]
  have hw0 : IntKind.i64.wrap ((xs.length : Int) - 1) = (xs.length : Int) - 1 := wrap_i64 _ (by omega) (by omega)
  (repeat' (first | (simp (maxDischargeDepth := 16) only [*, ↓vD, vU, ↓vMd, vMu, vZ, seval, k_app, k_slc1]) | (with_reducible refine gs (fun _ => ?_) (fun _ => ?_)) | (with_reducible refine cs_ (fun _ => ?_) (fun _ => ?_)) | (with_reducible refine appK_a ?_)))
  refine loopm_of (by simp only [asgL, dsts, List.cons_append, List.nil_append, List.append_nil]; rfl) (by simp only [noR, Bool.and_true, Bool.and_false]; rfl) (fun fr s => ∃ k : Int, s = st ∧ fr.t 5 = .int .i64 k ∧ k < xs.length ∧ -1 ≤ k ∧ Up xs k.toNat) (fun fr _ => match fr.t 5 with | .int _ n => n.toNat | _ => 0) ?_ ?_
  · exact ⟨(xs.length : Int) - 1, rfl, by simp [↓vD, vU, ↓vMd, vMu, vZ, seval, k_app, k_slc1], by omega, by omega, fun j h1 h2 => by omega⟩
  · rintro fr s hfr hd ⟨k, rfl, h5, hk, hk1, hup⟩
    have hw : IntKind.i64.wrap (k - 1) = k - 1 := wrap_i64 _ (by omega) (by omega)
    by_cases hpos : 0 < k
    · obtain ⟨q, rfl⟩ : ∃ q : Nat, k = (q : Int) + 1 := ⟨(k - 1).toNat, by omega⟩
      have hq : q + 1 < xs.length := by omega
      have hq0 : q < xs.length := by omega
      have e1 : ((q : Int) + 1) - 1 = (q : Int) := by omega
      have e2 : ((q : Int) + 1) = ((q + 1 : Nat) : Int) := by omega
      have e3 : decide (0 < (q : Int) + 1) = true := by simp only [decide_eq_true_eq]; omega
      rw [e1] at hw
      have ha := e_iadk Seg.a xs t .i64 (q + 1) 3 hq (by rfl) (by omega)
      rw [← e2] at ha
      clear e2
      (repeat' (first | (simp (maxDischargeDepth := 16) only [*, Seg.a, ↓vD, vU, ↓vMd, vMu, vZ, seval, k_app, k_slc1]) | (with_reducible refine gs (fun _ => ?_) (fun _ => ?_)) | (with_reducible refine cs_ (fun _ => ?_) (fun _ => ?_)) | (with_reducible refine appK_a ?_) | (with_reducible first | refine callH_use (compare_v _ _ _ _ _ _ _) ?_ | refine pureQ_use (compare_v _ _ _ _ _ _ _) ?_)))
      · rename_i hc
        simp only [decide_eq_true_eq, cmpS] at hc
        refine (upB_false (fun h => ?_)).symm
        have := h q hq (Nat.zero_le _)
        split at hc
        · omega
        · split at hc <;> omega
      · rename_i hc
        simp only [decide_eq_false_iff_not, cmpS] at hc
        have hle : xs[q].t ≤ xs[q + 1].t := by
          rcases Int.lt_or_le xs[q + 1].t xs[q].t with h | h
          · rw [if_pos h] at hc; omega
          · exact h
        refine ⟨_, St.le.refl _, ⟨_, rfl, rfl, by omega, by omega, fun j hj hqj => ?_⟩, by omega⟩
        by_cases hjq : j = q
        · subst hjq; exact hle
        · exact hup j hj (by omega)
    · have hb : decide (0 < k) = false := by simp; omega
      (repeat' (first | (simp (maxDischargeDepth := 16) only [*, ↓vD, vU, ↓vMd, vMu, vZ, seval, k_app, k_slc1]) | (with_reducible refine gs (fun _ => ?_) (fun _ => ?_)) | (with_reducible refine cs_ (fun _ => ?_) (fun _ => ?_)) | (with_reducible refine appK_a ?_)))
      refine (upB_true (fun j hj h0 => hup j hj (by omega))).symm
theorem rises_v (xs : List Seg) (hn : xs.length ≤ 1000000000000) (t : Tok) : VPure Tryd.prog 72 [.sl (xs.map Seg.a) t] (.bool (upB xs)) := by
  refine VPure.of v_rle_rises_ok (Nat.le_of_ble_eq_true rfl) (fun Z st => ?_)
  simp only [v_rle_rises, ↓vD, vU, ↓vMd, vMu, vZ, seval, k_app, k_slc1]
  (repeat' (first | (simp (maxDischargeDepth := 16) only [*, ↓vD, vU, ↓vMd, vMu, vZ, seval, k_app, k_slc1]) | (with_reducible refine gs (fun _ => ?_) (fun _ => ?_)) | (with_reducible refine cs_ (fun _ => ?_) (fun _ => ?_)) | (with_reducible refine appK_a ?_) | (with_reducible first | refine callH_use (isSorted_v _ hn _ _) ?_ | refine pureQ_use (isSorted_v _ hn _ _) ?_)))
def atF (xs : List Seg) (t : Int) : Vec := xs.foldl (fun v x => if x.t ≤ t then x.v else v) v0
theorem atF_take (xs : List Seg) (t : Int) (k : Nat) (h : k < xs.length) : atF (xs.take (k + 1)) t = if xs[k].t ≤ t then xs[k].v else atF (xs.take k) t := by
  rw [List.take_add_one, List.getElem?_eq_getElem h]
  simp only [atF, Option.toList, List.foldl_append, List.foldl_cons, List.foldl_nil]
theorem slow_v (xs : List Seg) (hn : xs.length ≤ 1000000000000) (tk : Tok) (t : Int) : VPure Tryd.prog 73 [.sl (xs.map Seg.a) tk, .int .i64 t] (.agg [num (atF xs t).m, num (atF xs t).c]) := by
  refine VPure.of v_rle_slow_ok (Nat.le_of_ble_eq_true rfl) (fun Z st => ?_)
  simp only [v_rle_slow, ↓vD, vU, ↓vMd, vMu, vZ, seval, k_app, k_slc1]
  (repeat' (first | (simp (maxDischargeDepth := 16) only [*, num, ↓vD, vU, ↓vMd, vMu, vZ, seval, k_app, k_slc1]) | (with_reducible refine gs (fun _ => ?_) (fun _ => ?_)) | (with_reducible refine cs_ (fun _ => ?_) (fun _ => ?_)) | (with_reducible refine objQ_i (fun _ _ => ?_); repeat with_reducible refine imp_i (fun _ => ?_)) | (with_reducible refine appK_a ?_)))
  rename_i b4 h4 b5 h5 n1 n2
  refine loopf_of (by simp only [asgL, dsts, List.cons_append, List.nil_append, List.append_nil]; rfl) (by simp only [noR, Bool.and_true, Bool.and_false]; rfl) hn (fun k fr s => s = (st.ins b4 (.cells [.int .i64 0, .int .i64 0])).ins b5 (.cells [.int .i64 (atF (xs.take k) t).m, .int .i64 (atF (xs.take k) t).c]) ∧ fr.t 10 = .int .i64 k) ?_ ?_ ?_
  · simp [↓vD, vU, ↓vMd, vMu, vZ, seval, k_app, k_slc1, atF, v0]
  · rintro k fr s hk hw hf hd ⟨rfl, h10⟩
    have ha := atF_take xs t k hk
    (repeat' (first | (simp (maxDischargeDepth := 16) only [*, Seg.a, ↓vD, vU, ↓vMd, vMu, vZ, seval, k_app, k_slc1]) | (with_reducible refine gs (fun _ => ?_) (fun _ => ?_)) | (with_reducible refine cs_ (fun _ => ?_) (fun _ => ?_)) | (with_reducible refine objQ_i (fun _ _ => ?_); repeat with_reducible refine imp_i (fun _ => ?_)) | (with_reducible refine appK_a ?_)))
    · rename_i hc
      simp only [decide_eq_true_eq] at hc
      rw [if_pos hc]
      (repeat' (first | (simp (maxDischargeDepth := 16) only [*, ↓vD, vU, ↓vMd, vMu, vZ, seval, k_app, k_slc1]) | (with_reducible refine gs (fun _ => ?_) (fun _ => ?_)) | (with_reducible refine cs_ (fun _ => ?_) (fun _ => ?_)) | (with_reducible refine objQ_i (fun _ _ => ?_); repeat with_reducible refine imp_i (fun _ => ?_)) | (with_reducible refine appK_a ?_)))
    · rename_i hc
      simp only [decide_eq_false_iff_not] at hc
      rw [if_neg hc]
      (repeat' (first | (simp (maxDischargeDepth := 16) only [*, ↓vD, vU, ↓vMd, vMu, vZ, seval, k_app, k_slc1]) | (with_reducible refine gs (fun _ => ?_) (fun _ => ?_)) | (with_reducible refine cs_ (fun _ => ?_) (fun _ => ?_)) | (with_reducible refine objQ_i (fun _ _ => ?_); repeat with_reducible refine imp_i (fun _ => ?_)) | (with_reducible refine appK_a ?_)))
  · rintro fr s hf hd ⟨rfl, h10⟩
    rw [List.take_length]
    (repeat' (first | (simp (maxDischargeDepth := 16) only [*, ↓vD, vU, ↓vMd, vMu, vZ, seval, k_app, k_slc1]) | (with_reducible refine gs (fun _ => ?_) (fun _ => ?_)) | (with_reducible refine cs_ (fun _ => ?_) (fun _ => ?_)) | (with_reducible refine objQ_i (fun _ _ => ?_); repeat with_reducible refine imp_i (fun _ => ?_)) | (with_reducible refine appK_a ?_)))
structure Cut (xs : List Seg) (t : Int) (lo hi : Nat) : Prop where
  le : lo ≤ hi
  top : hi ≤ xs.length
  low : ∀ j (h : j < xs.length), j < lo → xs[j].t ≤ t
  high : ∀ j (h : j < xs.length), hi ≤ j → t < xs[j].t
theorem up_le {xs : List Seg} (h : Up xs 0) : ∀ (d i : Nat) (hj : i + d < xs.length), (xs[i]'(by omega)).t ≤ xs[i + d].t
  | 0, i, hj => by simp
  | d + 1, i, hj => by
    have h1 := up_le h d i (by omega)
    have h2 := h (i + d) (by omega) (Nat.zero_le _)
    simp only [← Nat.add_assoc]
    omega
theorem up_le' {xs : List Seg} (h : Up xs 0) {i j : Nat} (hj : j < xs.length) (hij : i ≤ j) : (xs[i]'(by omega)).t ≤ xs[j].t := by
  have := up_le h (j - i) i (by omega)
  simpa [show i + (j - i) = j by omega] using this
theorem Cut.lower {xs : List Seg} {t : Int} {lo hi k : Nat} (c : Cut xs t lo hi) (h : Up xs 0) (hk : k < xs.length) (hkh : k < hi) (ht : xs[k].t ≤ t) : Cut xs t (k + 1) hi :=
  ⟨by omega, c.top, fun j hj hjk => by have := up_le' h (i := j) hk (by omega); omega, c.high⟩
theorem Cut.upper {xs : List Seg} {t : Int} {lo hi k : Nat} (c : Cut xs t lo hi) (h : Up xs 0) (hk : k < xs.length) (hkl : lo ≤ k) (ht : t < xs[k].t) : Cut xs t lo k :=
  ⟨hkl, by omega, c.low, fun j hj hjk => by have := up_le' h (i := k) hj (by omega); omega⟩
theorem Cut.at {xs : List Seg} {t : Int} {lo : Nat} (c : Cut xs t lo lo) : atF xs t = if h : 0 < lo then (xs[lo - 1]'(by have := c.top; omega)).v else v0 := by
  have key : ∀ d, lo + d ≤ xs.length → atF (xs.take (lo + d)) t = atF (xs.take lo) t := fun d => by
    induction d with
    | zero => simp
    | succ d ih =>
      intro hd
      rw [← Nat.add_assoc, atF_take xs t (lo + d) (by omega), if_neg (by have := c.high (lo + d) (by omega) (by omega); omega), ih (by omega)]
  have h1 := key (xs.length - lo) (by have := c.top; omega)
  rw [show lo + (xs.length - lo) = xs.length by have := c.top; omega, List.take_length] at h1
  rw [h1]
  split
  · rename_i h
    have := atF_take xs t (lo - 1) (by have := c.top; omega)
    rw [show lo - 1 + 1 = lo by omega] at this
    rw [this, if_pos (c.low (lo - 1) (by have := c.top; omega) (by omega))]
  · have : lo = 0 := by omega
    subst this; simp [atF]
theorem half_ok {lo hi : Nat} (h : lo < hi) (hh : hi ≤ 1000000000000) : IntKind.i64.wrap ((lo : Int) + (hi : Int)) = (lo : Int) + hi ∧ IntKind.i64.wrap (((lo : Int) + (hi : Int)).tdiv 2) = (((lo + hi) / 2 : Nat) : Int) := by
  refine ⟨wrap_i64 _ (by omega) (by omega), ?_⟩
  have : ((lo : Int) + (hi : Int)).tdiv 2 = (((lo + hi) / 2 : Nat) : Int) := by rw [Int.tdiv_eq_ediv_of_nonneg (by omega)]; omega
  rw [this]
  exact wrap_i64 _ (by omega) (by omega)
theorem At_v (xs : List Seg) (hn : xs.length ≤ 1000000000000) (tk : Tok) (t : Int) : VPure Tryd.prog 46 [.sl (xs.map Seg.a) tk, .int .i64 t] (.agg [num (atF xs t).m, num (atF xs t).c]) := by
  refine VPure.of v_rle_At_ok (Nat.le_of_ble_eq_true rfl) (fun Z st => ?_)
  simp only [v_rle_At, ↓vD, vU, ↓vMd, vMu, vZ, seval, k_app, k_slc1]
  (repeat' (first | (simp (maxDischargeDepth := 16) only [*, ↓vD, vU, ↓vMd, vMu, vZ, seval, k_app, k_slc1]) | (with_reducible refine gs (fun _ => ?_) (fun _ => ?_)) | (with_reducible refine cs_ (fun _ => ?_) (fun _ => ?_)) | (with_reducible refine objQ_i (fun _ _ => ?_); repeat with_reducible refine imp_i (fun _ => ?_)) | (with_reducible refine appK_a ?_)))
  rename_i b4 h4
  have J0 : Up xs 0 → Cut xs t 0 xs.length := fun _ => ⟨by omega, by omega, fun j h1 h2 => by omega, fun j h1 h2 => by omega⟩
  refine scopef_of (by simp only [asgL, dsts, List.cons_append, List.nil_append, List.append_nil]; rfl) (by simp only [noR, Bool.and_true, Bool.and_false]; rfl) (fun fr s => ∃ lo hi : Nat, s = st.ins b4 (.cells [.int .i64 0, .int .i64 0]) ∧ fr.t 5 = .int .i64 lo ∧ fr.t 6 = .int .i64 hi ∧ Up xs 0 ∧ Cut xs t lo hi) (fun fr _ => (match fr.t 6 with | .int _ n => n.toNat | _ => 0) - (match fr.t 5 with | .int _ n => n.toNat | _ => 0)) ?_ ?_
  · by_cases hup : Up xs 0
    · have hupb := upB_true hup
      have hc := J0 hup
      by_cases h0 : 0 < xs.length
      · obtain ⟨w1, w2⟩ := half_ok (lo := 0) h0 (by omega)
        obtain ⟨k, hkk⟩ : ∃ k, k = (0 + xs.length) / 2 := ⟨_, rfl⟩
        have eq2 := e_quo .i64 (((0 : Nat) : Int) + xs.length) 2 (by omega)
        rw [w2] at eq2
        rw [← hkk] at eq2 w2
        have hk : k < xs.length := by omega
        have hw := wrap_i64 ((k : Int) + 1) (by omega) (by omega)
        clear w2 hkk
        have e1 : decide ((0 : Int) < xs.length) = true := by simp; omega
        simp only [Int.cast_ofNat_Int] at w1 eq2
        (repeat' (first | (simp (maxDischargeDepth := 16) only [*, Seg.a, num, ↓vD, vU, ↓vMd, vMu, vZ, seval, k_app, k_slc1]) | (with_reducible refine gs (fun _ => ?_) (fun _ => ?_)) | (with_reducible refine cs_ (fun _ => ?_) (fun _ => ?_)) | (with_reducible refine objQ_i (fun _ _ => ?_); repeat with_reducible refine imp_i (fun _ => ?_)) | (with_reducible refine appK_a ?_) | (with_reducible first | refine callH_use (rises_v _ hn _) ?_ | refine pureQ_use (rises_v _ hn _) ?_) | (with_reducible first | refine callH_use (slow_v _ hn _ _) ?_ | refine pureQ_use (slow_v _ hn _ _) ?_)))
        · rename_i ht
          simp only [decide_eq_true_eq] at ht
          exact ⟨k + 1, xs.length, by simp, rfl, hc.lower hup hk hk ht⟩
        · rename_i ht
          simp only [decide_eq_false_iff_not] at ht
          exact ⟨0, k, by simp, rfl, hc.upper hup hk (by omega) (by omega)⟩
      · have hl0 : xs.length = 0 := by omega
        have hA : atF xs t = ⟨0, 0⟩ := by cases xs; rfl; simp at h0
        clear h0 hc J0
        (repeat' (first | (simp (maxDischargeDepth := 16) only [*, num, ↓vD, vU, ↓vMd, vMu, vZ, seval, k_app, k_slc1]) | (with_reducible refine gs (fun _ => ?_) (fun _ => ?_)) | (with_reducible refine cs_ (fun _ => ?_) (fun _ => ?_)) | (with_reducible refine objQ_i (fun _ _ => ?_); repeat with_reducible refine imp_i (fun _ => ?_)) | (with_reducible refine appK_a ?_) | (with_reducible first | refine callH_use (rises_v _ hn _) ?_ | refine pureQ_use (rises_v _ hn _) ?_) | (with_reducible first | refine callH_use (slow_v _ hn _ _) ?_ | refine pureQ_use (slow_v _ hn _ _) ?_)))
    · have hupb := upB_false hup
      (repeat' (first | (simp (maxDischargeDepth := 16) only [*, num, ↓vD, vU, ↓vMd, vMu, vZ, seval, k_app, k_slc1]) | (with_reducible refine gs (fun _ => ?_) (fun _ => ?_)) | (with_reducible refine cs_ (fun _ => ?_) (fun _ => ?_)) | (with_reducible refine objQ_i (fun _ _ => ?_); repeat with_reducible refine imp_i (fun _ => ?_)) | (with_reducible refine appK_a ?_) | (with_reducible first | refine callH_use (rises_v _ hn _) ?_ | refine pureQ_use (rises_v _ hn _) ?_) | (with_reducible first | refine callH_use (slow_v _ hn _ _) ?_ | refine pureQ_use (slow_v _ hn _ _) ?_)))
  · rintro fr s hf hd ⟨lo, hi, rfl, h5, h6, hup, hc⟩
    have ht := hc.top
    by_cases hlt : lo < hi
    · obtain ⟨w1, w2⟩ := half_ok hlt (by omega)
      have e1 : decide ((lo : Int) < hi) = true := by simp; omega
      obtain ⟨k, hkk⟩ : ∃ k, k = (lo + hi) / 2 := ⟨_, rfl⟩
      have eq2 := e_quo .i64 ((lo : Int) + hi) 2 (by omega)
      rw [w2] at eq2
      rw [← hkk] at eq2
      have hk : k < xs.length := by omega
      have hkl : lo ≤ k := by omega
      have hkh : k < hi := by omega
      have hw := wrap_i64 ((k : Int) + 1) (by omega) (by omega)
      clear w2 hkk
      (repeat' (first | (simp (maxDischargeDepth := 16) only [*, Seg.a, ↓vD, vU, ↓vMd, vMu, vZ, seval, k_app, k_slc1]) | (with_reducible refine gs (fun _ => ?_) (fun _ => ?_)) | (with_reducible refine cs_ (fun _ => ?_) (fun _ => ?_)) | (with_reducible refine objQ_i (fun _ _ => ?_); repeat with_reducible refine imp_i (fun _ => ?_)) | (with_reducible refine appK_a ?_)))
      · rename_i hct
        simp only [decide_eq_true_eq] at hct
        exact ⟨_, St.le.refl _, ⟨k + 1, hi, rfl, by simp, rfl, hc.lower hup hk hkh hct⟩, (by have : ((k : Int) + 1).toNat = k + 1 := (by omega); rw [this]; simp only [Int.toNat_natCast]; omega)⟩
      · rename_i hct
        simp only [decide_eq_false_iff_not] at hct
        exact ⟨_, St.le.refl _, ⟨lo, k, rfl, by simp, rfl, hc.upper hup hk hkl (by omega)⟩, by simp only [Int.toNat_natCast]; omega⟩
    · have e1 : decide ((lo : Int) < hi) = false := by simp; omega
      have e2 : hi = lo := by have := hc.le; omega
      subst e2
      have hA := hc.at
      by_cases h0 : 0 < hi
      · rw [dif_pos h0] at hA
        have e3 : ((hi : Int) == 0) = false := by simp; omega
        obtain ⟨q, rfl⟩ : ∃ q, hi = q + 1 := ⟨hi - 1, by omega⟩
        have hw : IntKind.i64.wrap (((q + 1 : Nat) : Int) - 1) = (q : Int) := by rw [wrap_i64 _ (by omega) (by omega)]; omega
        have hq : q < xs.length := by omega
        simp only [Nat.add_sub_cancel] at hA
        simp only [Int.natCast_add, Int.cast_ofNat_Int] at e3 hw
        (repeat' (first | (simp (maxDischargeDepth := 16) only [*, Seg.a, num, ↓vD, vU, ↓vMd, vMu, vZ, seval, k_app, k_slc1]) | (with_reducible refine gs (fun _ => ?_) (fun _ => ?_)) | (with_reducible refine cs_ (fun _ => ?_) (fun _ => ?_)) | (with_reducible refine objQ_i (fun _ _ => ?_); repeat with_reducible refine imp_i (fun _ => ?_)) | (with_reducible refine appK_a ?_)))
      · rw [dif_neg h0] at hA
        have : hi = 0 := by omega
        subst this
        (repeat' (first | (simp (maxDischargeDepth := 16) only [*, num, v0, ↓vD, vU, ↓vMd, vMu, vZ, seval, k_app, k_slc1]) | (with_reducible refine gs (fun _ => ?_) (fun _ => ?_)) | (with_reducible refine cs_ (fun _ => ?_) (fun _ => ?_)) | (with_reducible refine objQ_i (fun _ _ => ?_); repeat with_reducible refine imp_i (fun _ => ?_)) | (with_reducible refine appK_a ?_)))
end Go.Proofs.YtglekfgoadehbaaDoor.V
end
section
set_option linter.unusedSimpArgs false
set_option linter.unusedVariables false
/- Sorting so that what is alike keeps its order: rows, no program. -/
namespace Go.Proofs.YtglekfgoadehbaaDoor.SP
variable {α : Type}
structure SWO (lt : α → α → Bool) : Prop where
  irr : ∀ x, lt x x = false
  neg : ∀ x y z, lt x y = false → lt y z = false → lt x z = false
  asy : ∀ x y, lt x y = true → lt y x = false
def Srt (lt : α → α → Bool) (l : List α) : Prop := l.Pairwise fun x y => lt y x = false
def eqv (lt : α → α → Bool) (x y : α) : Bool := !lt x y && !lt y x
def Stb (lt : α → α → Bool) (l m : List α) : Prop := l.length = m.length ∧ ∀ x, l.filter (eqv lt x) = m.filter (eqv lt x)
variable {lt : α → α → Bool}
theorem Stb.refl (l : List α) : Stb lt l l := ⟨rfl, fun _ => rfl⟩
theorem Stb.trans {l m n : List α} (h : Stb lt l m) (k : Stb lt m n) : Stb lt l n := ⟨h.1.trans k.1, fun x => (h.2 x).trans (k.2 x)⟩
theorem Stb.symm {l m : List α} (h : Stb lt l m) : Stb lt m l := ⟨h.1.symm, fun x => (h.2 x).symm⟩
theorem Stb.append {l m l' m' : List α} (h : Stb lt l m) (k : Stb lt l' m') : Stb lt (l ++ l') (m ++ m') :=
  ⟨by simp [h.1, k.1], fun x => by rw [List.filter_append, List.filter_append, h.2, k.2]⟩
theorem eqv_refl (o : SWO lt) (x : α) : eqv lt x x = true := by simp [eqv, o.irr]
theorem Stb.mem (o : SWO lt) {l m : List α} (h : Stb lt l m) (y : α) : y ∈ l ↔ y ∈ m := by
  have e := h.2 y
  constructor
  · intro hy
    have : y ∈ l.filter (eqv lt y) := List.mem_filter.2 ⟨hy, eqv_refl o y⟩
    rw [e] at this
    exact (List.mem_filter.1 this).1
  · intro hy
    have : y ∈ m.filter (eqv lt y) := List.mem_filter.2 ⟨hy, eqv_refl o y⟩
    rw [← e] at this
    exact (List.mem_filter.1 this).1
theorem Stb.cross (o : SWO lt) (l r : List α) (h : ∀ x ∈ l, ∀ y ∈ r, lt y x = true) : Stb lt (l ++ r) (r ++ l) := by
  refine ⟨by simp; omega, fun z => ?_⟩
  rw [List.filter_append, List.filter_append]
  by_cases hl : l.filter (eqv lt z) = []
  · rw [hl]; simp
  · by_cases hr : r.filter (eqv lt z) = []
    · rw [hr]; simp
    · exfalso
      obtain ⟨x, hx⟩ := List.exists_mem_of_ne_nil _ hl
      obtain ⟨y, hy⟩ := List.exists_mem_of_ne_nil _ hr
      have h1 := List.mem_filter.1 hx
      have h2 := List.mem_filter.1 hy
      have h3 := h x h1.1 y h2.1
      simp only [eqv, Bool.and_eq_true, Bool.not_eq_true'] at h1 h2
      have := o.neg y z x h2.2.2 h1.2.1
      rw [this] at h3
      cases h3
theorem Srt.nil : Srt lt ([] : List α) := List.Pairwise.nil
theorem Srt.one (x : α) : Srt lt [x] := List.pairwise_singleton _ _
theorem Srt.app {l m : List α} (h : Srt lt l) (k : Srt lt m) (c : ∀ x ∈ l, ∀ y ∈ m, lt y x = false) : Srt lt (l ++ m) := List.pairwise_append.2 ⟨h, k, c⟩
theorem Srt.left {l m : List α} (h : Srt lt (l ++ m)) : Srt lt l := (List.pairwise_append.1 h).1
theorem Srt.right {l m : List α} (h : Srt lt (l ++ m)) : Srt lt m := (List.pairwise_append.1 h).2.1
theorem Srt.mid {l m : List α} (h : Srt lt (l ++ m)) : ∀ x ∈ l, ∀ y ∈ m, lt y x = false := (List.pairwise_append.1 h).2.2
theorem srt_unique (o : SWO lt) : ∀ (l m : List α), Srt lt l → Srt lt m → Stb lt l m → l = m
  | [], m, _, _, h => by
    have := h.1
    simp at this
    exact (List.eq_nil_of_length_eq_zero this.symm).symm
  | x :: l, [], _, _, h => by have := h.1; simp at this
  | x :: l, y :: m, hl, hm, h => by
    have hl' := List.pairwise_cons.1 hl
    have hm' := List.pairwise_cons.1 hm
    have h1 : lt x y = false := by
      have : x ∈ y :: m := (h.mem o x).1 (by simp)
      rcases List.mem_cons.1 this with e | e
      · rw [e]; exact o.irr _
      · exact hm'.1 x e
    have h2 : lt y x = false := by
      have : y ∈ x :: l := (h.mem o y).2 (by simp)
      rcases List.mem_cons.1 this with e | e
      · rw [e]; exact o.irr _
      · exact hl'.1 y e
    have e := h.2 x
    rw [List.filter_cons, List.filter_cons, if_pos (eqv_refl o x), if_pos (by simp [eqv, h1, h2])] at e
    injection e with e1 _
    subst e1
    rw [srt_unique o l m hl'.2 hm'.2 ⟨by have := h.1; simpa using this, fun z => by
      have e := h.2 z
      rw [List.filter_cons, List.filter_cons] at e
      split at e
      · injection e
      · exact e⟩]
def insS (lt : α → α → Bool) (x : α) : List α → List α
  | [] => [x]
  | y :: l => if lt x y then x :: y :: l else y :: insS lt x l
def sortS (lt : α → α → Bool) (l : List α) : List α := l.foldl (fun acc x => insS lt x acc) []
theorem mem_insS {x z : α} : ∀ {l : List α}, z ∈ insS lt x l ↔ z = x ∨ z ∈ l
  | [] => by simp [insS]
  | y :: l => by
    unfold insS
    split
    · simp
    · simp [mem_insS (l := l)]
      constructor
      · rintro (h | h | h) <;> simp [h]
      · rintro (h | h | h) <;> simp [h]
theorem srt_insS (o : SWO lt) (x : α) : ∀ (l : List α), Srt lt l → Srt lt (insS lt x l)
  | [], _ => Srt.one x
  | y :: l, h => by
    have h' := List.pairwise_cons.1 h
    unfold insS
    split
    · rename_i hlt
      refine List.pairwise_cons.2 ⟨fun z hz => ?_, h⟩
      rcases List.mem_cons.1 hz with rfl | hz
      · exact o.asy _ _ hlt
      · exact o.neg z y x (h'.1 z hz) (o.asy _ _ hlt)
    · rename_i hlt
      refine List.pairwise_cons.2 ⟨fun z hz => ?_, srt_insS o x l h'.2⟩
      rcases mem_insS.1 hz with rfl | hz
      · simpa using hlt
      · exact h'.1 z hz
theorem stb_insS (o : SWO lt) (x : α) : ∀ (l : List α), Srt lt l → Stb lt (l ++ [x]) (insS lt x l)
  | [], _ => Stb.refl _
  | y :: l, h => by
    have h' := List.pairwise_cons.1 h
    unfold insS
    split
    · rename_i hlt
      refine Stb.cross o (y :: l) [x] fun z hz u hu => ?_
      obtain rfl : u = x := by simpa using hu
      rcases List.mem_cons.1 hz with rfl | hz
      · exact hlt
      · cases e : lt u z
        · have := o.neg u z y e (h'.1 z hz)
          rw [this] at hlt; cases hlt
        · rfl
    · exact (Stb.refl [y]).append (stb_insS o x l h'.2)
theorem sortS_fold (o : SWO lt) : ∀ (l acc : List α), Srt lt acc → Srt lt (l.foldl (fun acc x => insS lt x acc) acc) ∧ Stb lt (acc ++ l) (l.foldl (fun acc x => insS lt x acc) acc)
  | [], acc, h => ⟨h, by simpa using Stb.refl acc⟩
  | x :: l, acc, h => by
    have ih := sortS_fold o l (insS lt x acc) (srt_insS o x acc h)
    refine ⟨ih.1, ?_⟩
    have : Stb lt (acc ++ x :: l) (insS lt x acc ++ l) := by
      have := (stb_insS o x acc h).append (Stb.refl (lt := lt) l)
      simpa using this
    exact this.trans ih.2
theorem sortS_srt (o : SWO lt) (l : List α) : Srt lt (sortS lt l) := (sortS_fold o l [] Srt.nil).1
theorem sortS_stb (o : SWO lt) (l : List α) : Stb lt l (sortS lt l) := by
  have h := (sortS_fold o l [] Srt.nil).2
  rw [List.nil_append] at h
  exact h
theorem sortS_of (o : SWO lt) {l m : List α} (h : Srt lt m) (k : Stb lt l m) : m = sortS lt l :=
  srt_unique o m _ h (sortS_srt o l) (k.symm.trans (sortS_stb o l))

/-! One step of the insertion. -/
theorem ins_done (o : SWO lt) {P M1 M2 : List α} {x : α} (hs : Srt lt (M1 ++ M2)) (hk : Stb lt P (M1 ++ M2)) (c : ∀ z ∈ M2, lt x z = true) (e : ∀ z ∈ M1, lt x z = false) :
    Srt lt (M1 ++ x :: M2) ∧ Stb lt (P ++ [x]) (M1 ++ x :: M2) := by
  constructor
  · refine Srt.app hs.left (List.pairwise_cons.2 ⟨fun z hz => o.asy _ _ (c z hz), hs.right⟩) fun u hu v hv => ?_
    rcases List.mem_cons.1 hv with rfl | hv
    · exact e u hu
    · exact hs.mid u hu v hv
  · have h1 := hk.append (Stb.refl (lt := lt) [x])
    refine h1.trans ?_
    have h2 : Stb lt (M2 ++ [x]) ([x] ++ M2) := Stb.cross o M2 [x] fun u hu v hv => by
      obtain rfl : v = x := by simpa using hv
      exact c u hu
    have h3 := (Stb.refl (lt := lt) M1).append h2
    simpa using h3
theorem last_le (o : SWO lt) {M1 : List α} {x y : α} (hs : Srt lt (M1 ++ [y])) (h : lt x y = false) : ∀ z ∈ M1 ++ [y], lt x z = false := by
  intro z hz
  rcases List.mem_append.1 hz with hz | hz
  · exact o.neg x y z h (hs.mid z hz y (by simp))
  · obtain rfl : z = y := by simpa using hz
    exact h
/-! The merge: what is left is cut at l1, l2, what is right at r1, r2. -/
theorem merge_cut (o : SWO lt) {l1 l2 r1 r2 : List α} (hl : Srt lt (l1 ++ l2)) (hr : Srt lt (r1 ++ r2)) (c1 : ∀ x ∈ l1, ∀ y ∈ r2, lt y x = false) (c2 : ∀ x ∈ l2, ∀ y ∈ r1, lt y x = true)
    {m1 m2 : List α} (h1 : Srt lt m1) (h2 : Srt lt m2) (k1 : Stb lt (l1 ++ r1) m1) (k2 : Stb lt (l2 ++ r2) m2) : Srt lt (m1 ++ m2) ∧ Stb lt (l1 ++ l2 ++ (r1 ++ r2)) (m1 ++ m2) := by
  constructor
  · refine Srt.app h1 h2 fun x hx y hy => ?_
    have hx' := (k1.mem o x).2 hx
    have hy' := (k2.mem o y).2 hy
    rcases List.mem_append.1 hx' with hx' | hx' <;> rcases List.mem_append.1 hy' with hy' | hy'
    · exact hl.mid x hx' y hy'
    · exact c1 x hx' y hy'
    · exact o.asy _ _ (c2 y hy' x hx')
    · exact hr.mid x hx' y hy'
  · refine Stb.trans ?_ (k1.append k2)
    have h3 := ((Stb.refl (lt := lt) l1).append (Stb.cross o l2 r1 c2)).append (Stb.refl (lt := lt) r2)
    simpa [List.append_assoc] using h3
end Go.Proofs.YtglekfgoadehbaaDoor.SP
end
section
set_option linter.unusedSimpArgs false
set_option linter.unusedVariables false
/- Rows of sorted blocks: no program. -/
namespace Go.Proofs.YtglekfgoadehbaaDoor.SP
variable {α : Type} {lt : α → α → Bool}
inductive Bk (lt : α → α → Bool) (s : Nat) : List α → Prop where
  | last (T : List α) : Srt lt T → T.length ≤ s → Bk lt s T
  | cons (U R : List α) : U.length = s → Srt lt U → Bk lt s R → Bk lt s (U ++ R)
def Full (lt : α → α → Bool) (s : Nat) (E : List α) : Prop := ∀ R, Bk lt s R → Bk lt s (E ++ R)
theorem Full.nil (s : Nat) : Full lt s ([] : List α) := fun _ h => h
theorem Full.snoc {s : Nat} {E M : List α} (h : Full lt s E) (hM : M.length = s) (k : Srt lt M) : Full lt s (E ++ M) := fun R hR => by
  rw [List.append_assoc]
  exact h _ (Bk.cons M R hM k hR)
theorem Bk.uncons {s : Nat} {R : List α} (h : Bk lt s R) (hs : s ≤ R.length) : ∃ U R', R = U ++ R' ∧ U.length = s ∧ Srt lt U ∧ Bk lt s R' := by
  cases h with
  | last _ hT hl => exact ⟨R, [], by simp, by omega, hT, Bk.last [] Srt.nil (by simp)⟩
  | cons U R' hU hS hR => exact ⟨U, R', rfl, hU, hS, hR⟩
theorem Bk.small {s : Nat} {R : List α} (h : Bk lt s R) (hs : R.length ≤ s) (h0 : 0 < s) : Srt lt R := by
  cases h with
  | last _ hT hl => exact hT
  | cons U R' hU hS hR =>
    have : R' = [] := List.eq_nil_of_length_eq_zero (by simp at hs; omega)
    rw [this, List.append_nil]
    exact hS
theorem Bk.two {s : Nat} {R : List α} (h : Bk lt s R) (hs : 2 * s ≤ R.length) : ∃ U V R', R = U ++ (V ++ R') ∧ U.length = s ∧ V.length = s ∧ Srt lt U ∧ Srt lt V ∧ Bk lt s R' := by
  obtain ⟨U, R1, rfl, hU, sU, h1⟩ := h.uncons (by omega)
  obtain ⟨V, R2, rfl, hV, sV, h2⟩ := h1.uncons (by simp at hs; omega)
  exact ⟨U, V, R2, rfl, hU, hV, sU, sV, h2⟩
theorem Bk.tail {s : Nat} {R : List α} (h : Bk lt s R) (h1 : s < R.length) (h2 : R.length < 2 * s) : ∃ U V, R = U ++ V ∧ U.length = s ∧ 0 < V.length ∧ V.length < s ∧ Srt lt U ∧ Srt lt V := by
  obtain ⟨U, V, rfl, hU, sU, hV⟩ := h.uncons (by omega)
  simp at h1 h2
  exact ⟨U, V, rfl, hU, by omega, by omega, sU, hV.small (by omega) (by omega)⟩
end Go.Proofs.YtglekfgoadehbaaDoor.SP
end
section
set_option linter.unusedSimpArgs false
set_option linter.unusedVariables false
/- Slices over objects, element by element. -/
namespace Go.Proofs.YtglekfgoadehbaaDoor.V
open Go Go.Proofs
variable {P : Program} {Z : Im} {α : Type}
structure Hid (p : Prop) : Prop where
  out : p
theorem callH_useC {f : Nat} {args : List AV} {v : AV} {Q : St → Prop} (h : ∀ (Y : Im) (s : St), Q s → VCalls P Y f args s (fun r s' => r = v ∧ s' = s)) {st : St} (hq : Q st) {K : AV → St → Prop} {t : Tag K} (k : K v st) : callH P Z f args st K t :=
  (h Z st hq).mono fun r s e => by rw [e.1, e.2]; exact k
def fl (f : α → AV) (xs : List α) : List AV := (xs.map f).flatMap AV.cells
def ob (st : St) (b : Nat) (f : α → AV) (rest : List AV) (xs : List α) : St := st.ins b (.cells (fl f xs ++ rest))
theorem ob_ins (st : St) (b : Nat) (f : α → AV) (rest : List AV) (xs : List α) (o : AObj) : (ob st b f rest xs).ins b o = st.ins b o := ins_ins ..
theorem fl_len (f : α → AV) (sz : Nat) (h : ∀ x, okEl sz (f x) = true) : ∀ (xs : List α), (fl f xs).length = xs.length * sz
  | [] => by simp [fl]
  | x :: xs => by
    have hx := h x
    simp only [okEl, Bool.and_eq_true, beq_iff_eq] at hx
    have := fl_len f sz h xs
    simp only [fl, List.map_cons, List.flatMap_cons, List.length_append, List.length_cons, Nat.add_mul] at this ⊢
    rw [hx.1, this]; omega
theorem fl_app (f : α → AV) (xs ys : List α) : fl f (xs ++ ys) = fl f xs ++ fl f ys := by simp [fl]
theorem fl_cons (f : α → AV) (x : α) (xs : List α) : fl f (x :: xs) = (f x).cells ++ fl f xs := by simp [fl]
theorem fl_split [Inhabited α] (f : α → AV) (xs : List α) (i : Nat) (h : i < xs.length) : xs = xs.take i ++ xs.getD i default :: xs.drop (i + 1) := by
  have : xs.getD i default = xs[i] := by simp [List.getD_eq_getElem?_getD, List.getElem?_eq_getElem h]
  rw [this, ← List.drop_eq_getElem_cons h, List.take_append_drop]
theorem fl_at [Inhabited α] (f : α → AV) (sz : Nat) (hok : ∀ x, okEl sz (f x) = true) (xs : List α) (rest : List AV) (i : Nat) (h : i < xs.length) :
    (fl f xs ++ rest).take (i * sz) = fl f (xs.take i) ∧ ((fl f xs ++ rest).drop (i * sz)).take sz = (f (xs.getD i default)).cells ∧ (fl f xs ++ rest).drop (i * sz + sz) = fl f (xs.drop (i + 1)) ++ rest := by
  have hs := fl_split f xs i h
  have l1 : (fl f (xs.take i)).length = i * sz := by rw [fl_len f sz hok, List.length_take, Nat.min_eq_left (by omega)]
  have hx := hok (xs.getD i default)
  simp only [okEl, Bool.and_eq_true, beq_iff_eq] at hx
  have e : fl f xs ++ rest = fl f (xs.take i) ++ ((f (xs.getD i default)).cells ++ (fl f (xs.drop (i + 1)) ++ rest)) := by
    conv => lhs; rw [hs]
    rw [fl_app, fl_cons]; simp
  rw [e]
  refine ⟨?_, ?_, ?_⟩
  · rw [List.take_append_of_le_length (by omega), List.take_of_length_le (by omega)]
  · rw [← l1, List.drop_left, List.take_append_of_le_length (by omega), List.take_of_length_le (by omega)]
  · rw [← l1, List.drop_append, List.drop_of_length_le (by omega), List.nil_append]
    rw [show (fl f (xs.take i)).length + sz - (fl f (xs.take i)).length = sz by omega, ← hx.1, List.drop_left]
theorem ob_iad (b n c : Nat) (q : IntKind) (i sz : Nat) (h : i < n) : viad sz (.osl b n c) (.int q (i : Int)) = some (.ptr b (i * sz)) := by
  simp [viad, h]
theorem ob_load [Inhabited α] (st : St) (b : Nat) (f : α → AV) (rest : List AV) (xs : List α) (i sz : Nat) (hok : ∀ x, okEl sz (f x) = true) (hag : ∀ x, AV.agg (f x).cells = f x) (h : i < xs.length) : vload (ob st b f rest xs) (.ptr b (i * sz)) sz true = some (f (xs.getD i default)) := by
  obtain ⟨_, h2, _⟩ := fl_at f sz hok xs rest i h
  have hl := fl_len f sz hok xs
  have : i * sz + sz ≤ (fl f xs ++ rest).length := by
    rw [List.length_append, hl]
    have : (i + 1) * sz ≤ xs.length * sz := Nat.mul_le_mul_right _ h
    rw [Nat.add_mul] at this; omega
  simp only [vload, ob, St.ins, if_true, grab]
  rw [if_pos this, h2, hag]
theorem ob_store [Inhabited α] (st : St) (b : Nat) (f : α → AV) (rest : List AV) (xs : List α) (i sz : Nat) (y : α) (K : AV → St → Prop) (t : Tag K) (hp : 0 < sz) (hok : ∀ x, okEl sz (f x) = true) (h : i < xs.length) :
    storeK (.ptr b (i * sz)) (f y) sz (ob st b f rest xs) K t = K .no (ob st b f rest (xs.set i y)) := by
  obtain ⟨h1, _, h3⟩ := fl_at f sz hok xs rest i h
  have hl := fl_len f sz hok xs
  have hlen : i * sz + sz ≤ (fl f xs ++ rest).length := by
    rw [List.length_append, hl]
    have : (i + 1) * sz ≤ xs.length * sz := Nat.mul_le_mul_right _ h
    rw [Nat.add_mul] at this; omega
  have hy := hok y
  simp only [okEl, Bool.and_eq_true, beq_iff_eq] at hy
  have e : fl f (xs.set i y) ++ rest = fl f (xs.take i) ++ (f y).cells ++ (fl f (xs.drop (i + 1)) ++ rest) := by
    have : xs.set i y = xs.take i ++ y :: xs.drop (i + 1) := by rw [List.set_eq_take_append_cons_drop, if_pos h]
    rw [this, fl_app, fl_cons]; simp
  rw [k_store]
  have hob : (ob st b f rest xs).objs b = some (.cells (fl f xs ++ rest)) := by simp [ob, St.ins]
  rw [hob, k_st, h1, h3]
  have e2 : (ob st b f rest xs).ins b (.cells (fl f (xs.take i) ++ (f y).cells ++ (fl f (xs.drop (i + 1)) ++ rest))) = ob st b f rest (xs.set i y) := by
    rw [ob_ins, ← e]; rfl
  rw [e2]
  simp [hy.1, hy.2, hp]
  intro
  simpa using hlen
theorem ob_objs (st : St) (b : Nat) (f : α → AV) (rest : List AV) (xs : List α) : (ob st b f rest xs).objs b = some (.cells (fl f xs ++ rest)) := by simp [ob, St.ins]
def swp [Inhabited α] (xs : List α) (i j : Nat) : List α := (xs.set i (xs.getD j default)).set j (xs.getD i default)
theorem swp_app [Inhabited α] (A B C : List α) (x y : α) : swp (A ++ x :: (B ++ y :: C)) A.length (A.length + 1 + B.length) = A ++ y :: (B ++ x :: C) := by
  unfold swp
  have e1 : (A ++ x :: (B ++ y :: C)).getD (A.length + 1 + B.length) default = y := by
    rw [List.getD_eq_getElem?_getD, List.getElem?_append_right (by omega), show A.length + 1 + B.length - A.length = B.length + 1 by omega, List.getElem?_cons_succ, List.getElem?_append_right (Nat.le_refl _), Nat.sub_self]
    rfl
  have e2 : (A ++ x :: (B ++ y :: C)).getD A.length default = x := by simp [List.getD_eq_getElem?_getD]
  rw [e1, e2]
  rw [List.set_append_right _ _ (Nat.le_refl _), Nat.sub_self, List.set_cons_zero]
  rw [List.set_append_right _ _ (by omega), show A.length + 1 + B.length - A.length = B.length + 1 by omega, List.set_cons_succ]
  rw [List.set_append_right _ _ (Nat.le_refl _), Nat.sub_self, List.set_cons_zero]
theorem swp_comm [Inhabited α] (xs : List α) (i j : Nat) (h : i ≠ j) : swp xs i j = swp xs j i := by
  unfold swp
  rw [List.set_comm _ _ h]
/-! ### Searches, merges -/
open Go.Proofs.YtglekfgoadehbaaDoor.SP
structure BX (pr : Nat → Bool) (lo hi i j : Nat) : Prop where
  li : lo ≤ i
  ij : i ≤ j
  jh : j ≤ hi
  yes : ∀ t, lo ≤ t → t < i → pr t = true
  no : ∀ t, j ≤ t → t < hi → pr t = false
theorem BX.start (pr : Nat → Bool) {lo hi : Nat} (h : lo ≤ hi) : BX pr lo hi lo hi := ⟨Nat.le_refl _, h, Nat.le_refl _, fun t h1 h2 => by omega, fun t h1 h2 => by omega⟩
theorem BX.up {pr : Nat → Bool} {lo hi i j : Nat} (h : BX pr lo hi i j) (mono : ∀ p q, lo ≤ p → p ≤ q → q < hi → pr q = true → pr p = true) {k : Nat} (hk : k = (i + j) / 2) (hlt : i < j) (hp : pr k = true) : BX pr lo hi (k + 1) j :=
  ⟨by have := h.li; omega, by omega, h.jh, fun t h1 h2 => mono t _ h1 (by omega) (by have := h.jh; omega) hp, h.no⟩
theorem BX.down {pr : Nat → Bool} {lo hi i j : Nat} (h : BX pr lo hi i j) (mono : ∀ p q, lo ≤ p → p ≤ q → q < hi → pr q = true → pr p = true) {k : Nat} (hk : k = (i + j) / 2) (hlt : i < j) (hp : pr k = false) : BX pr lo hi i k :=
  ⟨h.li, by omega, by have := h.jh; omega, h.yes, fun t h1 h2 => by
    cases e : pr t
    · rfl
    · have := mono k t (by have := h.li; omega) h1 h2 e
      rw [this] at hp; cases hp⟩
theorem tn1 (k : Nat) : ((k : Int) + 1).toNat = k + 1 := by omega
theorem tn0 (k : Nat) : (k : Int).toNat = k := by omega
theorem halves (i j : Nat) (h : i + j ≤ 2000000000) : ∃ n hh : Nat, hh = (i + j) / 2 ∧ IntKind.i64.wrap ((i : Int) + j) = n ∧ IntKind.u64.wrap n = n ∧ vbin .shr (.int .u64 n) (.int .u64 1) = some (.int .u64 hh) ∧ IntKind.i64.wrap (hh : Int) = hh := by
  refine ⟨i + j, (i + j) / 2, rfl, ?_, ?_, ?_, ?_⟩
  · rw [wrap_i64 _ (by omega) (by omega)]; omega
  · exact wrap_u64 _ (by omega) (by omega)
  · rw [e_shr1]; rfl
  · exact wrap_i64 _ (by omega) (by omega)
section
variable {α : Type} [Inhabited α]
theorem rd_app_mid (A V C : List α) (t : Nat) (h0 : A.length ≤ t) (h1 : t < A.length + V.length) : (A ++ (V ++ C)).getD t default = V.getD (t - A.length) default := by
  rw [List.getD_eq_getElem?_getD, List.getElem?_append_right (by omega), List.getElem?_append_left (by omega), List.getD_eq_getElem?_getD]
theorem srt_rd {lt : α → α → Bool} {V : List α} (h : Srt lt V) (p q : Nat) (hp : p < q) (hq : q < V.length) : lt (V.getD q default) (V.getD p default) = false := by
  rw [List.getD_eq_getElem?_getD, List.getD_eq_getElem?_getD, List.getElem?_eq_getElem hq, List.getElem?_eq_getElem (by omega : p < V.length)]
  exact List.pairwise_iff_getElem.1 h p q (by omega) hq hp
theorem mem_take_rd {V : List α} {k : Nat} {z : α} (h : z ∈ V.take k) : ∃ p, p < k ∧ p < V.length ∧ z = V.getD p default := by
  obtain ⟨p, hp, rfl⟩ := List.getElem_of_mem h
  have h2 : p < V.length := by simp at hp; omega
  exact ⟨p, by simp at hp; omega, h2, by simp [List.getD_eq_getElem?_getD, List.getElem?_eq_getElem h2]⟩
theorem mem_drop_rd {V : List α} {k : Nat} {z : α} (h : z ∈ V.drop k) : ∃ p, k ≤ p ∧ p < V.length ∧ z = V.getD p default := by
  obtain ⟨p, hp, rfl⟩ := List.getElem_of_mem h
  have h2 : k + p < V.length := by simp at hp; omega
  exact ⟨k + p, by omega, h2, by simp [List.getD_eq_getElem?_getD, List.getElem?_eq_getElem h2]⟩
theorem one_left {β : Type} {lt : β → β → Bool} (o : SWO lt) {x : β} {V : List β} (hV : Srt lt V) (k : Nat) (h1 : ∀ z ∈ V.take k, lt z x = true) (h2 : ∀ z ∈ V.drop k, lt z x = false) : Srt lt (V.take k ++ x :: V.drop k) ∧ Stb lt ([x] ++ V) (V.take k ++ x :: V.drop k) := by
  have hs : Srt lt (V.take k ++ V.drop k) := by rw [List.take_append_drop]; exact hV
  refine ⟨Srt.app hs.left (List.pairwise_cons.2 ⟨h2, hs.right⟩) fun u hu v hv => ?_, ?_⟩
  · rcases List.mem_cons.1 hv with rfl | hv
    · exact o.asy _ _ (h1 u hu)
    · exact hs.mid u hu v hv
  · have h3 : Stb lt ([x] ++ V.take k) (V.take k ++ [x]) := Stb.cross o [x] (V.take k) fun u hu v hv => by
      obtain rfl : u = x := by simpa using hu
      exact h1 v hv
    have h4 := h3.append (Stb.refl (lt := lt) (V.drop k))
    rw [List.append_assoc, List.take_append_drop] at h4
    simpa using h4
theorem one_right {β : Type} {lt : β → β → Bool} (o : SWO lt) {y : β} {U : List β} (hU : Srt lt U) (k : Nat) (h1 : ∀ z ∈ U.take k, lt y z = false) (h2 : ∀ z ∈ U.drop k, lt y z = true) : Srt lt (U.take k ++ y :: U.drop k) ∧ Stb lt (U ++ [y]) (U.take k ++ y :: U.drop k) := by
  have hs : Srt lt (U.take k ++ U.drop k) := by rw [List.take_append_drop]; exact hU
  refine ⟨Srt.app hs.left (List.pairwise_cons.2 ⟨fun z hz => o.asy _ _ (h2 z hz), hs.right⟩) fun u hu v hv => ?_, ?_⟩
  · rcases List.mem_cons.1 hv with rfl | hv
    · exact h1 u hu
    · exact hs.mid u hu v hv
  · have h3 : Stb lt (U.drop k ++ [y]) ([y] ++ U.drop k) := Stb.cross o (U.drop k) [y] fun u hu v hv => by
      obtain rfl : v = y := by simpa using hv
      exact h2 u hu
    have h4 := (Stb.refl (lt := lt) (U.take k)).append h3
    rw [← List.append_assoc, List.take_append_drop] at h4
    simpa using h4
end
def ltB {α : Type} (cf : α → α → Int) (x y : α) : Bool := decide (cf x y < 0)
end Go.Proofs.YtglekfgoadehbaaDoor.V
end
