/- Texts of this claim, joined: CsqSeg, Crle2, Crle3, Ccalc3, Ccalc4, Cref4, Ccalc5, Pcalc, Pcalc2, Pcalc3, VXliverylaw03, Chead03, Pcalc4, Pcalc6, Csums. -/
import Derived.Test.YtddbnncimggogaaQCalcSums3
import Derived.Test.YtddbnncimggogaaQCalcSums2
import Derived.Test.YtddbnncimggogaaQCalcSums1
import Derived.Test.YtddbnncimggogaaProg
section
set_option linter.unusedSimpArgs false
set_option linter.unusedVariables false
/- slices.SortStableFunc at livery/api.Seg: the merge, the whole. -/
namespace Go.Proofs.Ytddbnncimggogaa.V.SoSeg
open Go Go.Proofs Go.Proofs.Ytddbnncimggogaa.SP
set_option maxRecDepth 100000
variable {α : Type} [Inhabited α] {Z : Im}
theorem symMerge (f : α → AV) (hok : ∀ x, okEl 3 (f x) = true) (hag : ∀ x, AV.agg (f x).cells = f x) {gf : Nat} {fs cs : List AV} (cf : α → α → Int) (o : SWO (ltB cf)) (hc : ∀ x y, VPure Try.prog gf (fs ++ [f x, f y] ++ cs) (.int .i64 (cf x y)))
    (st : St) (bb L c : Nat) (rest : List AV) (hm : L ≤ 1000000000) : ∀ (d : Nat) (a m b : Nat) (A U V C : List α), A.length = a → a + U.length = m → m + V.length = b → 0 < U.length → 0 < V.length → Srt (ltB cf) U → Srt (ltB cf) V → (A ++ (U ++ (V ++ C))).length = L → U.length + V.length ≤ d →
      VCalls Try.prog Z 152 [.osl bb L c, .int .i64 a, .int .i64 m, .int .i64 b, .clo gf fs cs] (ob st bb f rest (A ++ (U ++ (V ++ C)))) (SymK f cf st bb rest A U V C)
  | 0, _, _, _, _, _, _, _, _, _, _, hU, _, _, _, _, hd => by omega
  | d + 1, a, m, b, A, U, V, C, ha, hm0, hb, hU, hV, sU, sV, hL, hd => by
    by_cases h1 : U.length = 1
    · obtain ⟨x, rfl⟩ := List.length_eq_one_iff.1 h1
      exact sym_left f hok hag cf o hc st bb L c rest A V C x a m b ha (by simpa using hm0) hb hV sV hL hm
    · by_cases h2 : V.length = 1
      · obtain ⟨y, rfl⟩ := List.length_eq_one_iff.1 h2
        exact sym_right f hok hag cf o hc st bb L c rest A U C y a m b ha hm0 (by simpa using hb) (by omega) sU hL hm
      · exact sym_mid f hok hag cf o hc st bb L c rest d (symMerge f hok hag cf o hc st bb L c rest hm d) A U V C a m b ha hm0 hb (by omega) (by omega) sU sV hL hm (by omega)
set_option maxHeartbeats 4000000 in
theorem stable (f : α → AV) (hok : ∀ x, okEl 3 (f x) = true) (hag : ∀ x, AV.agg (f x).cells = f x) {gf : Nat} {fs cs : List AV} (cf : α → α → Int) (o : SWO (ltB cf)) (hc : ∀ x y, VPure Try.prog gf (fs ++ [f x, f y] ++ cs) (.int .i64 (cf x y)))
    (st : St) (bb L c : Nat) (rest : List AV) (xs : List α) (hL : xs.length = L) (hm : L ≤ 1000000000) :
    VCalls Try.prog Z 139 [.osl bb L c, .int .i64 L, .clo gf fs cs] (ob st bb f rest xs) (fun r s => r = .tup [] ∧ s = ob st bb f rest (sortS (ltB cf) xs)) := by
  refine VCalls.of v_slices_stableCmpFunc_api_Seg_ok (Nat.le_of_ble_eq_true rfl) ?_
  simp only [v_slices_stableCmpFunc_api_Seg, ↓vD, vU, VE.ev, VE.evs, retvs, tupOf, grab, vfill, vbsl, eqCells, eqCell, veqs, veqs1, vmnx, AV.isCell, AV.isUndef, Nat.reduceEqDiff, Nat.reduceAdd, Nat.reduceSub, Nat.reduceLeDiff, Nat.reduceLT, reduceIte, reduceCtorEq, Nat.reduceBEq, k_app, k_slc1]
  refine loopm_of (by simp only [asgL, dsts, List.cons_append, List.nil_append, List.append_nil]; rfl) (by simp only [noR, Bool.and_true, Bool.and_false]; rfl) (fun fr s => ∃ (a b : Nat) (D R : List α), fr.t 7 = .int .i64 a ∧ fr.t 8 = .int .i64 b ∧ s = ob st bb f rest (D ++ R) ∧ a + 20 = b ∧ D.length = a ∧ Full (ltB cf) 20 D ∧ Stb (ltB cf) xs (D ++ R)) (fun fr _ => L - (match fr.t 7 with | .int _ n => n.toNat | _ => 0)) ?_ ?_
  · exact ⟨0, 20, [], xs, by simp [↓vD, vU, VE.ev, VE.evs, retvs, tupOf, grab, vfill, vbsl, eqCells, eqCell, veqs, veqs1, vmnx, AV.isCell, AV.isUndef, Nat.reduceEqDiff, Nat.reduceAdd, Nat.reduceSub, Nat.reduceLeDiff, Nat.reduceLT, reduceIte, reduceCtorEq, Nat.reduceBEq, k_app, k_slc1], by simp [↓vD, vU, VE.ev, VE.evs, retvs, tupOf, grab, vfill, vbsl, eqCells, eqCell, veqs, veqs1, vmnx, AV.isCell, AV.isUndef, Nat.reduceEqDiff, Nat.reduceAdd, Nat.reduceSub, Nat.reduceLeDiff, Nat.reduceLT, reduceIte, reduceCtorEq, Nat.reduceBEq, k_app, k_slc1], rfl, rfl, rfl, Full.nil 20, Stb.refl _⟩
  · rintro fr s hf hd ⟨a, b, D, R, h7, h8, rfl, hab, hD, hF, hS⟩
    have hlen : a + R.length = L := by have := hS.1; simp at this; omega
    by_cases hlt : b ≤ L
    · have hR20 : 20 ≤ R.length := by omega
      have w1 : IntKind.i64.wrap ((b : Int) + 20) = ((b + 20 : Nat) : Int) := by rw [wrap_i64 _ (by omega) (by omega)]; omega
      have hins := insertion (Z := Z) f hok hag cf o hc st bb L c rest D (R.take 20) (R.drop 20) a b hD (by simp; omega) (by rw [List.take_append_drop]; simp; omega) hm
      rw [List.take_append_drop] at hins
      (repeat' (first | (simp (config := { maxDischargeDepth := 16 }) only [*, ↓vD, vU, VE.ev, VE.evs, retvs, tupOf, grab, vfill, vbsl, eqCells, eqCell, veqs, veqs1, vmnx, AV.isCell, AV.isUndef, Nat.reduceEqDiff, Nat.reduceAdd, Nat.reduceSub, Nat.reduceLeDiff, Nat.reduceLT, reduceIte, reduceCtorEq, Nat.reduceBEq, k_app, k_slc1]) | (with_reducible refine gs (fun _ => ?_) (fun _ => ?_)) | (with_reducible refine cs_ (fun _ => ?_) (fun _ => ?_)) | (with_reducible refine objQ_i (fun _ _ => ?_); (repeat (with_reducible refine imp_i (fun _ => ?_)))) | (with_reducible refine appK_a ?_) | (with_reducible refine freshQ_i (fun _ _ => ?_)) | (with_reducible refine nilQ_i (fun _ _ => ?_))))
      refine callH_then hins ?_
      rintro _ _ ⟨rfl, M, rfl, hs, hk⟩
      have hl := hk.1
      (repeat' (first | (simp (config := { maxDischargeDepth := 16 }) only [*, ↓vD, vU, VE.ev, VE.evs, retvs, tupOf, grab, vfill, vbsl, eqCells, eqCell, veqs, veqs1, vmnx, AV.isCell, AV.isUndef, Nat.reduceEqDiff, Nat.reduceAdd, Nat.reduceSub, Nat.reduceLeDiff, Nat.reduceLT, reduceIte, reduceCtorEq, Nat.reduceBEq, k_app, k_slc1]) | (with_reducible refine gs (fun _ => ?_) (fun _ => ?_)) | (with_reducible refine cs_ (fun _ => ?_) (fun _ => ?_)) | (with_reducible refine objQ_i (fun _ _ => ?_); (repeat (with_reducible refine imp_i (fun _ => ?_)))) | (with_reducible refine appK_a ?_) | (with_reducible refine freshQ_i (fun _ _ => ?_)) | (with_reducible refine nilQ_i (fun _ _ => ?_))))
      refine ⟨_, St.le.refl _, ⟨b, b + 20, D ++ M, R.drop 20, rfl, by omega, by rw [List.append_assoc], rfl, by have := hk.1; simp at this ⊢; omega, hF.snoc (by have := hk.1; simp at this; omega) hs, ?_⟩, by simp only [tn0]; omega⟩
      refine hS.trans ?_
      rw [List.append_assoc]
      refine Stb.append (Stb.refl _) ?_
      have h2 := Stb.append hk (Stb.refl (lt := ltB cf) (R.drop 20))
      rwa [List.take_append_drop] at h2
    · have hins := insertion (Z := Z) f hok hag cf o hc st bb L c rest D R [] a L hD (by omega) (by simp; omega) hm
      rw [List.append_nil] at hins
      (repeat' (first | (simp (config := { maxDischargeDepth := 16 }) only [*, ↓vD, vU, VE.ev, VE.evs, retvs, tupOf, grab, vfill, vbsl, eqCells, eqCell, veqs, veqs1, vmnx, AV.isCell, AV.isUndef, Nat.reduceEqDiff, Nat.reduceAdd, Nat.reduceSub, Nat.reduceLeDiff, Nat.reduceLT, reduceIte, reduceCtorEq, Nat.reduceBEq, k_app, k_slc1]) | (with_reducible refine gs (fun _ => ?_) (fun _ => ?_)) | (with_reducible refine cs_ (fun _ => ?_) (fun _ => ?_)) | (with_reducible refine objQ_i (fun _ _ => ?_); (repeat (with_reducible refine imp_i (fun _ => ?_)))) | (with_reducible refine appK_a ?_) | (with_reducible refine freshQ_i (fun _ _ => ?_)) | (with_reducible refine nilQ_i (fun _ _ => ?_))))
      refine callH_then hins ?_
      rintro _ _ ⟨rfl, M, rfl, hs, hk⟩
      have hl := hk.1
      have HB : Hid (∃ ys, D ++ (M ++ []) = ys ∧ Bk (ltB cf) 20 ys ∧ Stb (ltB cf) xs ys) := ⟨⟨D ++ M, by simp, hF _ (Bk.last M hs (by omega)), hS.trans (Stb.append (Stb.refl _) hk)⟩⟩
      clear hs hk hl hins hF hS hD hlen hlt hab
      (repeat' (first | (simp (config := { maxDischargeDepth := 16 }) only [*, ↓vD, vU, VE.ev, VE.evs, retvs, tupOf, grab, vfill, vbsl, eqCells, eqCell, veqs, veqs1, vmnx, AV.isCell, AV.isUndef, Nat.reduceEqDiff, Nat.reduceAdd, Nat.reduceSub, Nat.reduceLeDiff, Nat.reduceLT, reduceIte, reduceCtorEq, Nat.reduceBEq, k_app, k_slc1]) | (with_reducible refine gs (fun _ => ?_) (fun _ => ?_)) | (with_reducible refine cs_ (fun _ => ?_) (fun _ => ?_)) | (with_reducible refine objQ_i (fun _ _ => ?_); (repeat (with_reducible refine imp_i (fun _ => ?_)))) | (with_reducible refine appK_a ?_) | (with_reducible refine freshQ_i (fun _ _ => ?_)) | (with_reducible refine nilQ_i (fun _ _ => ?_))))
      refine loopm_of (by simp only [asgL, dsts, List.cons_append, List.nil_append, List.append_nil]; rfl) (by simp only [noR, Bool.and_true, Bool.and_false]; rfl) (fun fr2 s => ∃ (z : Nat) (ys : List α), fr2.t 6 = .int .i64 z ∧ s = ob st bb f rest ys ∧ 20 ≤ z ∧ z ≤ 2000000000 ∧ Bk (ltB cf) z ys ∧ Stb (ltB cf) xs ys) (fun fr2 _ => L - (match fr2.t 6 with | .int _ n => n.toNat | _ => 0)) ?_ ?_
      · obtain ⟨ys, h1, h2, h3⟩ := HB.out
        exact ⟨20, ys, by simp [↓vD, vU, VE.ev, VE.evs, retvs, tupOf, grab, vfill, vbsl, eqCells, eqCell, veqs, veqs1, vmnx, AV.isCell, AV.isUndef, Nat.reduceEqDiff, Nat.reduceAdd, Nat.reduceSub, Nat.reduceLeDiff, Nat.reduceLT, reduceIte, reduceCtorEq, Nat.reduceBEq, k_app, k_slc1, hf], by rw [← h1]; simp, by omega, by omega, h2, h3⟩
      · rintro fr2 s hf2 hd2 ⟨z, ys, h6, rfl, hz1, hz2, hB, hS⟩
        have hyl : ys.length = L := by have := hS.1; omega
        by_cases hzl : z < L
        · obtain ⟨z2, hz⟩ : ∃ z2, 2 * z = z2 := ⟨_, rfl⟩
          have w1 : IntKind.i64.wrap (2 * (z : Int)) = (z2 : Int) := by rw [wrap_i64 _ (by omega) (by omega)]; omega
          have w2 : IntKind.i64.wrap ((z : Int) * 2) = (z2 : Int) := by rw [wrap_i64 _ (by omega) (by omega)]; omega
          (repeat' (first | (simp (config := { maxDischargeDepth := 16 }) only [*, ↓vD, vU, VE.ev, VE.evs, retvs, tupOf, grab, vfill, vbsl, eqCells, eqCell, veqs, veqs1, vmnx, AV.isCell, AV.isUndef, Nat.reduceEqDiff, Nat.reduceAdd, Nat.reduceSub, Nat.reduceLeDiff, Nat.reduceLT, reduceIte, reduceCtorEq, Nat.reduceBEq, k_app, k_slc1]) | (with_reducible refine gs (fun _ => ?_) (fun _ => ?_)) | (with_reducible refine cs_ (fun _ => ?_) (fun _ => ?_)) | (with_reducible refine objQ_i (fun _ _ => ?_); (repeat (with_reducible refine imp_i (fun _ => ?_)))) | (with_reducible refine appK_a ?_) | (with_reducible refine freshQ_i (fun _ _ => ?_)) | (with_reducible refine nilQ_i (fun _ _ => ?_))))
          refine loopm_of (by simp only [asgL, dsts, List.cons_append, List.nil_append, List.append_nil]; rfl) (by simp only [noR, Bool.and_true, Bool.and_false]; rfl) (fun fr3 s => ∃ (a b : Nat) (E R : List α), fr3.t 7 = .int .i64 a ∧ fr3.t 8 = .int .i64 b ∧ s = ob st bb f rest (E ++ R) ∧ a + z2 = b ∧ E.length = a ∧ Full (ltB cf) z2 E ∧ Bk (ltB cf) z R ∧ Stb (ltB cf) xs (E ++ R)) (fun fr3 _ => L - (match fr3.t 7 with | .int _ n => n.toNat | _ => 0)) ?_ ?_
          · exact ⟨0, z2, [], ys, by simp [↓vD, vU, VE.ev, VE.evs, retvs, tupOf, grab, vfill, vbsl, eqCells, eqCell, veqs, veqs1, vmnx, AV.isCell, AV.isUndef, Nat.reduceEqDiff, Nat.reduceAdd, Nat.reduceSub, Nat.reduceLeDiff, Nat.reduceLT, reduceIte, reduceCtorEq, Nat.reduceBEq, k_app, k_slc1], by simp [↓vD, vU, VE.ev, VE.evs, retvs, tupOf, grab, vfill, vbsl, eqCells, eqCell, veqs, veqs1, vmnx, AV.isCell, AV.isUndef, Nat.reduceEqDiff, Nat.reduceAdd, Nat.reduceSub, Nat.reduceLeDiff, Nat.reduceLT, reduceIte, reduceCtorEq, Nat.reduceBEq, k_app, k_slc1], rfl, by omega, rfl, Full.nil _, hB, hS⟩
          · rintro fr3 s hf3 hd3 ⟨a, b, E, R, h7, h8, rfl, hab, hE, hF, hBR, hSE⟩
            have hlen : a + R.length = L := by have := hSE.1; simp at this; omega
            obtain ⟨mm, hmm⟩ : ∃ mm, a + z = mm := ⟨_, rfl⟩
            have w3 : IntKind.i64.wrap ((a : Int) + z) = (mm : Int) := by rw [wrap_i64 _ (by omega) (by omega)]; omega
            by_cases hlt : b ≤ L
            · obtain ⟨b2, hb2⟩ : ∃ b2, b + z2 = b2 := ⟨_, rfl⟩
              have w4 : IntKind.i64.wrap ((b : Int) + z2) = (b2 : Int) := by rw [wrap_i64 _ (by omega) (by omega)]; omega
              obtain ⟨U, V, R2, hRR, hU, hV, sU, sV, hB2⟩ := hBR.two (by omega)
              subst hRR
              have hsm := symMerge (Z := Z) f hok hag cf o hc st bb L c rest hm _ a mm b E U V R2 hE (by omega) (by omega) (by omega) (by omega) sU sV (by simp at hlen ⊢; omega) (Nat.le_refl _)
              have H := Hid.mk (And.intro hU (And.intro hV (And.intro hlen (And.intro hmm hb2))))
              clear hU hV hlen hmm hb2
              (repeat' (first | (simp (config := { maxDischargeDepth := 16 }) only [*, ↓vD, vU, VE.ev, VE.evs, retvs, tupOf, grab, vfill, vbsl, eqCells, eqCell, veqs, veqs1, vmnx, AV.isCell, AV.isUndef, Nat.reduceEqDiff, Nat.reduceAdd, Nat.reduceSub, Nat.reduceLeDiff, Nat.reduceLT, reduceIte, reduceCtorEq, Nat.reduceBEq, k_app, k_slc1]) | (with_reducible refine gs (fun _ => ?_) (fun _ => ?_)) | (with_reducible refine cs_ (fun _ => ?_) (fun _ => ?_)) | (with_reducible refine objQ_i (fun _ _ => ?_); (repeat (with_reducible refine imp_i (fun _ => ?_)))) | (with_reducible refine appK_a ?_) | (with_reducible refine freshQ_i (fun _ _ => ?_)) | (with_reducible refine nilQ_i (fun _ _ => ?_))))
              refine callH_then hsm ?_
              rintro _ _ ⟨rfl, M, rfl, hs, hk⟩
              (repeat' (first | (simp (config := { maxDischargeDepth := 16 }) only [*, ↓vD, vU, VE.ev, VE.evs, retvs, tupOf, grab, vfill, vbsl, eqCells, eqCell, veqs, veqs1, vmnx, AV.isCell, AV.isUndef, Nat.reduceEqDiff, Nat.reduceAdd, Nat.reduceSub, Nat.reduceLeDiff, Nat.reduceLT, reduceIte, reduceCtorEq, Nat.reduceBEq, k_app, k_slc1]) | (with_reducible refine gs (fun _ => ?_) (fun _ => ?_)) | (with_reducible refine cs_ (fun _ => ?_) (fun _ => ?_)) | (with_reducible refine objQ_i (fun _ _ => ?_); (repeat (with_reducible refine imp_i (fun _ => ?_)))) | (with_reducible refine appK_a ?_) | (with_reducible refine freshQ_i (fun _ _ => ?_)) | (with_reducible refine nilQ_i (fun _ _ => ?_))))
              obtain ⟨hU, hV, hlen, hmm, hb2⟩ := H.out
              have hkl := hk.1
              simp only [List.length_append] at hkl
              refine ⟨_, St.le.refl _, ⟨b, b2, E ++ M, R2, rfl, rfl, by rw [List.append_assoc], by omega, by simp only [List.length_append]; omega, hF.snoc (by omega) hs, hB2, ?_⟩, by simp only [tn0]; omega⟩
              refine hSE.trans ?_
              rw [List.append_assoc, ← List.append_assoc U]
              exact Stb.append (Stb.refl _) (Stb.append hk (Stb.refl _))
            · by_cases hml : mm < L
              · obtain ⟨U, V, hRR, hU, hV0, hV1, sU, sV⟩ := hBR.tail (by omega) (by omega)
                subst hRR
                have hsm := symMerge (Z := Z) f hok hag cf o hc st bb L c rest hm _ a mm L E U V [] hE (by omega) (by simp at hlen; omega) (by omega) (by omega) sU sV (by simp at hlen ⊢; omega) (Nat.le_refl _)
                rw [List.append_nil] at hsm
                have H := Hid.mk (And.intro hU (And.intro hlen hmm))
                clear hU hlen hmm
                (repeat' (first | (simp (config := { maxDischargeDepth := 16 }) only [*, ↓vD, vU, VE.ev, VE.evs, retvs, tupOf, grab, vfill, vbsl, eqCells, eqCell, veqs, veqs1, vmnx, AV.isCell, AV.isUndef, Nat.reduceEqDiff, Nat.reduceAdd, Nat.reduceSub, Nat.reduceLeDiff, Nat.reduceLT, reduceIte, reduceCtorEq, Nat.reduceBEq, k_app, k_slc1]) | (with_reducible refine gs (fun _ => ?_) (fun _ => ?_)) | (with_reducible refine cs_ (fun _ => ?_) (fun _ => ?_)) | (with_reducible refine objQ_i (fun _ _ => ?_); (repeat (with_reducible refine imp_i (fun _ => ?_)))) | (with_reducible refine appK_a ?_) | (with_reducible refine freshQ_i (fun _ _ => ?_)) | (with_reducible refine nilQ_i (fun _ _ => ?_))))
                refine callH_then hsm ?_
                rintro _ _ ⟨rfl, M, rfl, hs, hk⟩
                (repeat' (first | (simp (config := { maxDischargeDepth := 16 }) only [*, ↓vD, vU, VE.ev, VE.evs, retvs, tupOf, grab, vfill, vbsl, eqCells, eqCell, veqs, veqs1, vmnx, AV.isCell, AV.isUndef, Nat.reduceEqDiff, Nat.reduceAdd, Nat.reduceSub, Nat.reduceLeDiff, Nat.reduceLT, reduceIte, reduceCtorEq, Nat.reduceBEq, k_app, k_slc1]) | (with_reducible refine gs (fun _ => ?_) (fun _ => ?_)) | (with_reducible refine cs_ (fun _ => ?_) (fun _ => ?_)) | (with_reducible refine objQ_i (fun _ _ => ?_); (repeat (with_reducible refine imp_i (fun _ => ?_)))) | (with_reducible refine appK_a ?_) | (with_reducible refine freshQ_i (fun _ _ => ?_)) | (with_reducible refine nilQ_i (fun _ _ => ?_))))
                obtain ⟨hU, hlen, hmm⟩ := H.out
                have hkl := hk.1
                simp only [List.length_append] at hkl
                exact ⟨_, St.le.refl _, ⟨z2, E ++ M, rfl, by simp, by omega, by omega, hF _ (Bk.last M hs (by omega)), hSE.trans (Stb.append (Stb.refl _) hk)⟩, by simp only [tn0]; omega⟩
              · have H := Hid.mk (And.intro hlen hmm)
                clear hlen hmm
                (repeat' (first | (simp (config := { maxDischargeDepth := 16 }) only [*, ↓vD, vU, VE.ev, VE.evs, retvs, tupOf, grab, vfill, vbsl, eqCells, eqCell, veqs, veqs1, vmnx, AV.isCell, AV.isUndef, Nat.reduceEqDiff, Nat.reduceAdd, Nat.reduceSub, Nat.reduceLeDiff, Nat.reduceLT, reduceIte, reduceCtorEq, Nat.reduceBEq, k_app, k_slc1]) | (with_reducible refine gs (fun _ => ?_) (fun _ => ?_)) | (with_reducible refine cs_ (fun _ => ?_) (fun _ => ?_)) | (with_reducible refine objQ_i (fun _ _ => ?_); (repeat (with_reducible refine imp_i (fun _ => ?_)))) | (with_reducible refine appK_a ?_) | (with_reducible refine freshQ_i (fun _ _ => ?_)) | (with_reducible refine nilQ_i (fun _ _ => ?_))))
                obtain ⟨hlen, hmm⟩ := H.out
                exact ⟨_, St.le.refl _, ⟨z2, E ++ R, rfl, rfl, by omega, by omega, hF _ (Bk.last R (hBR.small (by omega) (by omega)) (by omega)), hSE⟩, by simp only [tn0]; omega⟩
        · have hfin : ys = sortS (ltB cf) xs := sortS_of o (hB.small (by omega) (by omega)) hS
          rw [hfin]
          clear hfin
          (repeat' (first | (simp (config := { maxDischargeDepth := 16 }) only [*, ↓vD, vU, VE.ev, VE.evs, retvs, tupOf, grab, vfill, vbsl, eqCells, eqCell, veqs, veqs1, vmnx, AV.isCell, AV.isUndef, Nat.reduceEqDiff, Nat.reduceAdd, Nat.reduceSub, Nat.reduceLeDiff, Nat.reduceLT, reduceIte, reduceCtorEq, Nat.reduceBEq, k_app, k_slc1]) | (with_reducible refine gs (fun _ => ?_) (fun _ => ?_)) | (with_reducible refine cs_ (fun _ => ?_) (fun _ => ?_)) | (with_reducible refine objQ_i (fun _ _ => ?_); (repeat (with_reducible refine imp_i (fun _ => ?_)))) | (with_reducible refine appK_a ?_) | (with_reducible refine freshQ_i (fun _ _ => ?_)) | (with_reducible refine nilQ_i (fun _ _ => ?_))))
theorem sortStable (f : α → AV) (hok : ∀ x, okEl 3 (f x) = true) (hag : ∀ x, AV.agg (f x).cells = f x) {gf : Nat} {fs cs : List AV} (cf : α → α → Int) (o : SWO (ltB cf)) (hc : ∀ x y, VPure Try.prog gf (fs ++ [f x, f y] ++ cs) (.int .i64 (cf x y)))
    (st : St) (bb L c : Nat) (rest : List AV) (xs : List α) (hL : xs.length = L) (hm : L ≤ 1000000000) :
    VCalls Try.prog Z 102 [.osl bb L c, .clo gf fs cs] (ob st bb f rest xs) (fun r s => r = .tup [] ∧ s = ob st bb f rest (sortS (ltB cf) xs)) := by
  have hst := stable (Z := Z) f hok hag cf o hc st bb L c rest xs hL hm
  refine VCalls.of v_slices_SortStableFunc_api_Seg_api_Seg_ok (Nat.le_of_ble_eq_true rfl) ?_
  simp only [v_slices_SortStableFunc_api_Seg_api_Seg, ↓vD, vU, VE.ev, VE.evs, retvs, tupOf, grab, vfill, vbsl, eqCells, eqCell, veqs, veqs1, vmnx, AV.isCell, AV.isUndef, Nat.reduceEqDiff, Nat.reduceAdd, Nat.reduceSub, Nat.reduceLeDiff, Nat.reduceLT, reduceIte, reduceCtorEq, Nat.reduceBEq, k_app, k_slc1]
  have hlen : ∀ (b n c : Nat), vlen (.osl b n c) = some (.int .i64 n) := fun _ _ _ => rfl
  (repeat' (first | (simp (config := { maxDischargeDepth := 16 }) only [*, ↓vD, vU, VE.ev, VE.evs, retvs, tupOf, grab, vfill, vbsl, eqCells, eqCell, veqs, veqs1, vmnx, AV.isCell, AV.isUndef, Nat.reduceEqDiff, Nat.reduceAdd, Nat.reduceSub, Nat.reduceLeDiff, Nat.reduceLT, reduceIte, reduceCtorEq, Nat.reduceBEq, k_app, k_slc1]) | (with_reducible refine gs (fun _ => ?_) (fun _ => ?_)) | (with_reducible refine cs_ (fun _ => ?_) (fun _ => ?_)) | (with_reducible refine objQ_i (fun _ _ => ?_); (repeat (with_reducible refine imp_i (fun _ => ?_)))) | (with_reducible refine appK_a ?_) | (with_reducible refine freshQ_i (fun _ _ => ?_)) | (with_reducible refine nilQ_i (fun _ _ => ?_))))
  refine callH_then hst ?_
  rintro _ _ ⟨rfl, rfl⟩
  clear hst
  (repeat' (first | (simp (config := { maxDischargeDepth := 16 }) only [*, ↓vD, vU, VE.ev, VE.evs, retvs, tupOf, grab, vfill, vbsl, eqCells, eqCell, veqs, veqs1, vmnx, AV.isCell, AV.isUndef, Nat.reduceEqDiff, Nat.reduceAdd, Nat.reduceSub, Nat.reduceLeDiff, Nat.reduceLT, reduceIte, reduceCtorEq, Nat.reduceBEq, k_app, k_slc1]) | (with_reducible refine gs (fun _ => ?_) (fun _ => ?_)) | (with_reducible refine cs_ (fun _ => ?_) (fun _ => ?_)) | (with_reducible refine objQ_i (fun _ _ => ?_); (repeat (with_reducible refine imp_i (fun _ => ?_)))) | (with_reducible refine appK_a ?_) | (with_reducible refine freshQ_i (fun _ _ => ?_)) | (with_reducible refine nilQ_i (fun _ _ => ?_))))
theorem insertion_nil (t : Tok) (cl : AV) : VPure Try.prog 151 [.sl [] t, .int .i64 0, .int .i64 0, cl] (.tup []) := by
  refine VPure.of v_slices_insertionSortCmpFunc_api_Seg_ok (Nat.le_of_ble_eq_true rfl) (fun Z st => ?_)
  simp only [v_slices_insertionSortCmpFunc_api_Seg, ↓vD, vU, VE.ev, VE.evs, retvs, tupOf, grab, vfill, vbsl, eqCells, eqCell, veqs, veqs1, vmnx, AV.isCell, AV.isUndef, Nat.reduceEqDiff, Nat.reduceAdd, Nat.reduceSub, Nat.reduceLeDiff, Nat.reduceLT, reduceIte, reduceCtorEq, Nat.reduceBEq, k_app, k_slc1]
  refine loop_out ?_
  (repeat' (first | (simp (config := { maxDischargeDepth := 16 }) only [*, vX, Int.reduceLE, Int.reduceLT, Int.reduceGE, Int.reduceGT, Int.reduceBEq, Int.reduceBNe, Int.reduceAdd, Int.reduceSub, Int.reduceMul, Int.reduceNeg, ↓vD, vU, VE.ev, VE.evs, retvs, tupOf, grab, vfill, vbsl, eqCells, eqCell, veqs, veqs1, vmnx, AV.isCell, AV.isUndef, Nat.reduceEqDiff, Nat.reduceAdd, Nat.reduceSub, Nat.reduceLeDiff, Nat.reduceLT, reduceIte, reduceCtorEq, Nat.reduceBEq]) | (simp (disch := first | assumption | omega | exact Seg.len _ | exact Vec.len _ | exact Leg.len _ | exact num_len _ | exact rowA_len _ | exact rowA_len | exact rowT_len _ | exact rowT_len | exact Seg.len | exact Vec.len | exact Leg.len | exact num_len | exact AV.slen _ _ | rfl) only [vP]) | (with_reducible (first | refine gsnd (fun _ => ?_) (fun _ => ?_) | refine csnd (fun _ => ?_) (fun _ => ?_) | refine gsd (fun _ => ?_) (fun _ => ?_) | refine csd (fun _ => ?_) (fun _ => ?_) | refine gsn (fun _ => ?_) (fun _ => ?_) | refine csn (fun _ => ?_) (fun _ => ?_))) | (with_reducible refine gs (fun _ => ?_) (fun _ => ?_)) | (with_reducible refine cs_ (fun _ => ?_) (fun _ => ?_)) | (with_reducible refine objQ_i (fun _ _ => ?_); (repeat (with_reducible refine imp_i (fun _ => ?_)))) | ((try with_reducible refine appK_a ?_); first | (with_reducible refine appD_F (by refine ⟨?_, ?_, ?_, ?_⟩ <;> (first | assumption | omega | exact St.has_add (by assumption) | (simp only [ins_has]; exact St.has_add (by assumption)) | (simp only [ins_has, fresh_ins, kill_ins, add_ins] at *; exact St.has_add (by assumption)) | (simp only [*, ins_has, has_full, St.has_add]; done) | (simp [-List.map_take, -List.map_drop, or_imp, forall_and, Seg.a, Vec.a, Leg.a, num, okEl, cells_agg, cells_int, cells_sl, cells_bool, AV.isCell]; done) | (simp; omega))) (fun _ _ => ?_)) | (with_reducible refine appD_V (by refine ⟨?_, ?_, ?_, ?_, ?_⟩ <;> (first | assumption | omega | exact St.has_add (by assumption) | (simp only [ins_has]; exact St.has_add (by assumption)) | (simp only [ins_has, fresh_ins, kill_ins, add_ins] at *; exact St.has_add (by assumption)) | (simp only [*, ins_has, has_full, St.has_add]; done) | (simp [-List.map_take, -List.map_drop, or_imp, forall_and, Seg.a, Vec.a, Leg.a, num, okEl, cells_agg, cells_int, cells_sl, cells_bool, AV.isCell]; done) | (simp; omega))) (fun _ _ => ?_))) | (with_reducible refine freshQ_i (fun _ _ => ?_)) | (with_reducible refine nilQ_i (fun _ _ => ?_))))
theorem stable_nil (t : Tok) (cl : AV) : VPure Try.prog 139 [.sl [] t, .int .i64 0, cl] (.tup []) := by
  refine VPure.of v_slices_stableCmpFunc_api_Seg_ok (Nat.le_of_ble_eq_true rfl) (fun Z st => ?_)
  simp only [v_slices_stableCmpFunc_api_Seg, ↓vD, vU, VE.ev, VE.evs, retvs, tupOf, grab, vfill, vbsl, eqCells, eqCell, veqs, veqs1, vmnx, AV.isCell, AV.isUndef, Nat.reduceEqDiff, Nat.reduceAdd, Nat.reduceSub, Nat.reduceLeDiff, Nat.reduceLT, reduceIte, reduceCtorEq, Nat.reduceBEq, k_app, k_slc1]
  refine loop_out ?_
  (repeat' (first | (simp (config := { maxDischargeDepth := 16 }) only [*, vX, Int.reduceLE, Int.reduceLT, Int.reduceGE, Int.reduceGT, Int.reduceBEq, Int.reduceBNe, Int.reduceAdd, Int.reduceSub, Int.reduceMul, Int.reduceNeg, ↓vD, vU, VE.ev, VE.evs, retvs, tupOf, grab, vfill, vbsl, eqCells, eqCell, veqs, veqs1, vmnx, AV.isCell, AV.isUndef, Nat.reduceEqDiff, Nat.reduceAdd, Nat.reduceSub, Nat.reduceLeDiff, Nat.reduceLT, reduceIte, reduceCtorEq, Nat.reduceBEq]) | (simp (disch := first | assumption | omega | exact Seg.len _ | exact Vec.len _ | exact Leg.len _ | exact num_len _ | exact rowA_len _ | exact rowA_len | exact rowT_len _ | exact rowT_len | exact Seg.len | exact Vec.len | exact Leg.len | exact num_len | exact AV.slen _ _ | rfl) only [vP]) | (with_reducible (first | refine gsnd (fun _ => ?_) (fun _ => ?_) | refine csnd (fun _ => ?_) (fun _ => ?_) | refine gsd (fun _ => ?_) (fun _ => ?_) | refine csd (fun _ => ?_) (fun _ => ?_) | refine gsn (fun _ => ?_) (fun _ => ?_) | refine csn (fun _ => ?_) (fun _ => ?_))) | (with_reducible refine gs (fun _ => ?_) (fun _ => ?_)) | (with_reducible refine cs_ (fun _ => ?_) (fun _ => ?_)) | (with_reducible refine objQ_i (fun _ _ => ?_); (repeat (with_reducible refine imp_i (fun _ => ?_)))) | ((try with_reducible refine appK_a ?_); first | (with_reducible refine appD_F (by refine ⟨?_, ?_, ?_, ?_⟩ <;> (first | assumption | omega | exact St.has_add (by assumption) | (simp only [ins_has]; exact St.has_add (by assumption)) | (simp only [ins_has, fresh_ins, kill_ins, add_ins] at *; exact St.has_add (by assumption)) | (simp only [*, ins_has, has_full, St.has_add]; done) | (simp [-List.map_take, -List.map_drop, or_imp, forall_and, Seg.a, Vec.a, Leg.a, num, okEl, cells_agg, cells_int, cells_sl, cells_bool, AV.isCell]; done) | (simp; omega))) (fun _ _ => ?_)) | (with_reducible refine appD_V (by refine ⟨?_, ?_, ?_, ?_, ?_⟩ <;> (first | assumption | omega | exact St.has_add (by assumption) | (simp only [ins_has]; exact St.has_add (by assumption)) | (simp only [ins_has, fresh_ins, kill_ins, add_ins] at *; exact St.has_add (by assumption)) | (simp only [*, ins_has, has_full, St.has_add]; done) | (simp [-List.map_take, -List.map_drop, or_imp, forall_and, Seg.a, Vec.a, Leg.a, num, okEl, cells_agg, cells_int, cells_sl, cells_bool, AV.isCell]; done) | (simp; omega))) (fun _ _ => ?_))) | (with_reducible refine freshQ_i (fun _ _ => ?_)) | (with_reducible refine nilQ_i (fun _ _ => ?_)) | (with_reducible first | refine callH_use (insertion_nil _ _) ?_ | refine pureQ_use (insertion_nil _ _) ?_)))
  refine loop_out ?_
  (repeat' (first | (simp (config := { maxDischargeDepth := 16 }) only [*, vX, Int.reduceLE, Int.reduceLT, Int.reduceGE, Int.reduceGT, Int.reduceBEq, Int.reduceBNe, Int.reduceAdd, Int.reduceSub, Int.reduceMul, Int.reduceNeg, ↓vD, vU, VE.ev, VE.evs, retvs, tupOf, grab, vfill, vbsl, eqCells, eqCell, veqs, veqs1, vmnx, AV.isCell, AV.isUndef, Nat.reduceEqDiff, Nat.reduceAdd, Nat.reduceSub, Nat.reduceLeDiff, Nat.reduceLT, reduceIte, reduceCtorEq, Nat.reduceBEq]) | (simp (disch := first | assumption | omega | exact Seg.len _ | exact Vec.len _ | exact Leg.len _ | exact num_len _ | exact rowA_len _ | exact rowA_len | exact rowT_len _ | exact rowT_len | exact Seg.len | exact Vec.len | exact Leg.len | exact num_len | exact AV.slen _ _ | rfl) only [vP]) | (with_reducible (first | refine gsnd (fun _ => ?_) (fun _ => ?_) | refine csnd (fun _ => ?_) (fun _ => ?_) | refine gsd (fun _ => ?_) (fun _ => ?_) | refine csd (fun _ => ?_) (fun _ => ?_) | refine gsn (fun _ => ?_) (fun _ => ?_) | refine csn (fun _ => ?_) (fun _ => ?_))) | (with_reducible refine gs (fun _ => ?_) (fun _ => ?_)) | (with_reducible refine cs_ (fun _ => ?_) (fun _ => ?_)) | (with_reducible refine objQ_i (fun _ _ => ?_); (repeat (with_reducible refine imp_i (fun _ => ?_)))) | ((try with_reducible refine appK_a ?_); first | (with_reducible refine appD_F (by refine ⟨?_, ?_, ?_, ?_⟩ <;> (first | assumption | omega | exact St.has_add (by assumption) | (simp only [ins_has]; exact St.has_add (by assumption)) | (simp only [ins_has, fresh_ins, kill_ins, add_ins] at *; exact St.has_add (by assumption)) | (simp only [*, ins_has, has_full, St.has_add]; done) | (simp [-List.map_take, -List.map_drop, or_imp, forall_and, Seg.a, Vec.a, Leg.a, num, okEl, cells_agg, cells_int, cells_sl, cells_bool, AV.isCell]; done) | (simp; omega))) (fun _ _ => ?_)) | (with_reducible refine appD_V (by refine ⟨?_, ?_, ?_, ?_, ?_⟩ <;> (first | assumption | omega | exact St.has_add (by assumption) | (simp only [ins_has]; exact St.has_add (by assumption)) | (simp only [ins_has, fresh_ins, kill_ins, add_ins] at *; exact St.has_add (by assumption)) | (simp only [*, ins_has, has_full, St.has_add]; done) | (simp [-List.map_take, -List.map_drop, or_imp, forall_and, Seg.a, Vec.a, Leg.a, num, okEl, cells_agg, cells_int, cells_sl, cells_bool, AV.isCell]; done) | (simp; omega))) (fun _ _ => ?_))) | (with_reducible refine freshQ_i (fun _ _ => ?_)) | (with_reducible refine nilQ_i (fun _ _ => ?_))))
theorem sortStable_nil (t : Tok) (cl : AV) : VPure Try.prog 102 [.sl [] t, cl] (.tup []) := by
  refine VPure.of v_slices_SortStableFunc_api_Seg_api_Seg_ok (Nat.le_of_ble_eq_true rfl) (fun Z st => ?_)
  simp only [v_slices_SortStableFunc_api_Seg_api_Seg, ↓vD, vU, VE.ev, VE.evs, retvs, tupOf, grab, vfill, vbsl, eqCells, eqCell, veqs, veqs1, vmnx, AV.isCell, AV.isUndef, Nat.reduceEqDiff, Nat.reduceAdd, Nat.reduceSub, Nat.reduceLeDiff, Nat.reduceLT, reduceIte, reduceCtorEq, Nat.reduceBEq, k_app, k_slc1]
  (repeat' (first | (simp (config := { maxDischargeDepth := 16 }) only [*, vX, Int.reduceLE, Int.reduceLT, Int.reduceGE, Int.reduceGT, Int.reduceBEq, Int.reduceBNe, Int.reduceAdd, Int.reduceSub, Int.reduceMul, Int.reduceNeg, ↓vD, vU, VE.ev, VE.evs, retvs, tupOf, grab, vfill, vbsl, eqCells, eqCell, veqs, veqs1, vmnx, AV.isCell, AV.isUndef, Nat.reduceEqDiff, Nat.reduceAdd, Nat.reduceSub, Nat.reduceLeDiff, Nat.reduceLT, reduceIte, reduceCtorEq, Nat.reduceBEq]) | (simp (disch := first | assumption | omega | exact Seg.len _ | exact Vec.len _ | exact Leg.len _ | exact num_len _ | exact rowA_len _ | exact rowA_len | exact rowT_len _ | exact rowT_len | exact Seg.len | exact Vec.len | exact Leg.len | exact num_len | exact AV.slen _ _ | rfl) only [vP]) | (with_reducible (first | refine gsnd (fun _ => ?_) (fun _ => ?_) | refine csnd (fun _ => ?_) (fun _ => ?_) | refine gsd (fun _ => ?_) (fun _ => ?_) | refine csd (fun _ => ?_) (fun _ => ?_) | refine gsn (fun _ => ?_) (fun _ => ?_) | refine csn (fun _ => ?_) (fun _ => ?_))) | (with_reducible refine gs (fun _ => ?_) (fun _ => ?_)) | (with_reducible refine cs_ (fun _ => ?_) (fun _ => ?_)) | (with_reducible refine objQ_i (fun _ _ => ?_); (repeat (with_reducible refine imp_i (fun _ => ?_)))) | ((try with_reducible refine appK_a ?_); first | (with_reducible refine appD_F (by refine ⟨?_, ?_, ?_, ?_⟩ <;> (first | assumption | omega | exact St.has_add (by assumption) | (simp only [ins_has]; exact St.has_add (by assumption)) | (simp only [ins_has, fresh_ins, kill_ins, add_ins] at *; exact St.has_add (by assumption)) | (simp only [*, ins_has, has_full, St.has_add]; done) | (simp [-List.map_take, -List.map_drop, or_imp, forall_and, Seg.a, Vec.a, Leg.a, num, okEl, cells_agg, cells_int, cells_sl, cells_bool, AV.isCell]; done) | (simp; omega))) (fun _ _ => ?_)) | (with_reducible refine appD_V (by refine ⟨?_, ?_, ?_, ?_, ?_⟩ <;> (first | assumption | omega | exact St.has_add (by assumption) | (simp only [ins_has]; exact St.has_add (by assumption)) | (simp only [ins_has, fresh_ins, kill_ins, add_ins] at *; exact St.has_add (by assumption)) | (simp only [*, ins_has, has_full, St.has_add]; done) | (simp [-List.map_take, -List.map_drop, or_imp, forall_and, Seg.a, Vec.a, Leg.a, num, okEl, cells_agg, cells_int, cells_sl, cells_bool, AV.isCell]; done) | (simp; omega))) (fun _ _ => ?_))) | (with_reducible refine freshQ_i (fun _ _ => ?_)) | (with_reducible refine nilQ_i (fun _ _ => ?_)) | (with_reducible first | refine callH_use (stable_nil _ _) ?_ | refine pureQ_use (stable_nil _ _) ?_)))
end Go.Proofs.Ytddbnncimggogaa.V.SoSeg
end
section
set_option linter.unusedSimpArgs false
set_option linter.unusedVariables false
/- rle.folded, Of, Box. -/
namespace Go.Proofs.Ytddbnncimggogaa.V
open Go Go.Proofs Go.Proofs.Ytddbnncimggogaa.SP
set_option maxRecDepth 100000
theorem Seg.ok (x : Seg) : okEl 3 x.a = true := rfl
theorem Seg.ag (x : Seg) : AV.agg x.a.cells = x.a := rfl
theorem Clone_v {Z : Im} (xs : List Seg) (hn : xs.length ≤ 1000000000) (t : Tok) (st : St) : VCalls Try.prog Z 101 [.sl (xs.map Seg.a) t] st
    (fun r s => (xs = [] ∧ ∃ t', r = .sl [] t' ∧ s = st) ∨ ∃ b c rest, xs ≠ [] ∧ st.objs b = none ∧ r = .osl b xs.length c ∧ s = ob st b Seg.a rest xs) := by
  refine VCalls.of v_slices_Clone_api_Seg_api_Seg_ok (Nat.le_of_ble_eq_true rfl) ?_
  simp only [v_slices_Clone_api_Seg_api_Seg, ↓vD, vU, VE.ev, VE.evs, retvs, tupOf, grab, vfill, vbsl, eqCells, eqCell, veqs, veqs1, vmnx, AV.isCell, AV.isUndef, Nat.reduceEqDiff, Nat.reduceAdd, Nat.reduceSub, Nat.reduceLeDiff, Nat.reduceLT, reduceIte, reduceCtorEq, Nat.reduceBEq, k_app, k_slc1]
  cases xs with
  | nil =>
    (repeat' (first | (simp (config := { maxDischargeDepth := 16 }) only [*, ↓vD, vU, VE.ev, VE.evs, retvs, tupOf, grab, vfill, vbsl, eqCells, eqCell, veqs, veqs1, vmnx, AV.isCell, AV.isUndef, Nat.reduceEqDiff, Nat.reduceAdd, Nat.reduceSub, Nat.reduceLeDiff, Nat.reduceLT, reduceIte, reduceCtorEq, Nat.reduceBEq, k_app, k_slc1]) | (with_reducible refine gs (fun _ => ?_) (fun _ => ?_)) | (with_reducible refine cs_ (fun _ => ?_) (fun _ => ?_)) | (with_reducible refine objQ_i (fun _ _ => ?_); (repeat (with_reducible refine imp_i (fun _ => ?_)))) | (with_reducible refine appK_a ?_) | (with_reducible refine freshQ_i (fun _ _ => ?_)) | (with_reducible refine nilQ_i (fun _ _ => ?_))))
    · exact ⟨st, St.le.refl _, .inl ⟨_, rfl, rfl⟩⟩
    · refine ⟨by simp, by simp, by simp, ?_⟩
      (repeat' (first | (simp (config := { maxDischargeDepth := 16 }) only [*, ↓vD, vU, VE.ev, VE.evs, retvs, tupOf, grab, vfill, vbsl, eqCells, eqCell, veqs, veqs1, vmnx, AV.isCell, AV.isUndef, Nat.reduceEqDiff, Nat.reduceAdd, Nat.reduceSub, Nat.reduceLeDiff, Nat.reduceLT, reduceIte, reduceCtorEq, Nat.reduceBEq, k_app, k_slc1]) | (with_reducible refine gs (fun _ => ?_) (fun _ => ?_)) | (with_reducible refine cs_ (fun _ => ?_) (fun _ => ?_)) | (with_reducible refine objQ_i (fun _ _ => ?_); (repeat (with_reducible refine imp_i (fun _ => ?_)))) | (with_reducible refine appK_a ?_) | (with_reducible refine freshQ_i (fun _ _ => ?_)) | (with_reducible refine nilQ_i (fun _ _ => ?_))))
      exact ⟨st, le_add (St.le.refl _) _, .inl ⟨_, rfl, rfl⟩⟩
  | cons x xs =>
    (repeat' (first | (simp (config := { maxDischargeDepth := 16 }) only [*, ↓vD, vU, VE.ev, VE.evs, retvs, tupOf, grab, vfill, vbsl, eqCells, eqCell, veqs, veqs1, vmnx, AV.isCell, AV.isUndef, Nat.reduceEqDiff, Nat.reduceAdd, Nat.reduceSub, Nat.reduceLeDiff, Nat.reduceLT, reduceIte, reduceCtorEq, Nat.reduceBEq, k_app, k_slc1]) | (with_reducible refine gs (fun _ => ?_) (fun _ => ?_)) | (with_reducible refine cs_ (fun _ => ?_) (fun _ => ?_)) | (with_reducible refine objQ_i (fun _ _ => ?_); (repeat (with_reducible refine imp_i (fun _ => ?_)))) | (with_reducible refine freshQ_i (fun _ _ => ?_)) | (with_reducible refine nilQ_i (fun _ _ => ?_))))
    refine appK_new (by simp) (by simp) ?_ (by simp at hn ⊢; omega) (by simp at hn ⊢; omega) ?_
    · intro y hy
      rcases List.mem_cons.1 hy with rfl | hy
      · rfl
      · obtain ⟨z, _, rfl⟩ := List.mem_map.1 hy; rfl
    · intro b c rest hb hc hr
      (repeat' (first | (simp (config := { maxDischargeDepth := 16 }) only [*, ↓vD, vU, VE.ev, VE.evs, retvs, tupOf, grab, vfill, vbsl, eqCells, eqCell, veqs, veqs1, vmnx, AV.isCell, AV.isUndef, Nat.reduceEqDiff, Nat.reduceAdd, Nat.reduceSub, Nat.reduceLeDiff, Nat.reduceLT, reduceIte, reduceCtorEq, Nat.reduceBEq, k_app, k_slc1]) | (with_reducible refine gs (fun _ => ?_) (fun _ => ?_)) | (with_reducible refine cs_ (fun _ => ?_) (fun _ => ?_)) | (with_reducible refine objQ_i (fun _ _ => ?_); (repeat (with_reducible refine imp_i (fun _ => ?_)))) | (with_reducible refine appK_a ?_) | (with_reducible refine freshQ_i (fun _ _ => ?_)) | (with_reducible refine nilQ_i (fun _ _ => ?_))))
      exact ⟨_, St.le.refl _, .inr ⟨b, c, rest, hb, rfl, by simp [ob, fl]⟩⟩
theorem put_v {Z : Im} (st0 st : St) (b4 b5 : Nat) (h4 : st.objs b4 = none) (h5 : st.objs b5 = none) (n45 : ¬ b5 = b4) (acc : List Seg) (tk : Tok) (l : Vec) (t m c : Int) (hn : acc.length ≤ 1000000000) (ht : Ours 3 st0 st tk) :
    VCalls Try.prog Z 104 [.agg [.int .i64 t, .int .i64 m, .int .i64 c], .ptr b5 0, .ptr b4 0] ((st.ins b4 (.cells [.sl (acc.map Seg.a) tk])).ins b5 (.cells [.int .i64 l.m, .int .i64 l.c]))
      (fun r s => r = .tup [] ∧ ∃ tk' st', Ours 3 st0 st' tk' ∧ s = (st'.ins b4 (.cells [.sl ((putF acc l ⟨t, ⟨m, c⟩⟩).1.map Seg.a) tk'])).ins b5 (.cells [.int .i64 (putF acc l ⟨t, ⟨m, c⟩⟩).2.m, .int .i64 (putF acc l ⟨t, ⟨m, c⟩⟩).2.c])) := by
  have n54 : ¬ b4 = b5 := fun e => n45 e.symm
  have hts := ht.has
  obtain ⟨lm, lc⟩ := l
  refine VCalls.of v_rle_folded_1_ok (Nat.le_of_ble_eq_true rfl) ?_
  simp only [v_rle_folded_1, ↓vD, vU, VE.ev, VE.evs, retvs, tupOf, grab, vfill, vbsl, eqCells, eqCell, veqs, veqs1, vmnx, AV.isCell, AV.isUndef, Nat.reduceEqDiff, Nat.reduceAdd, Nat.reduceSub, Nat.reduceLeDiff, Nat.reduceLT, reduceIte, reduceCtorEq, Nat.reduceBEq, k_app, k_slc1]
  (repeat' (first | (simp (config := { maxDischargeDepth := 16 }) only [*, ↓vD, vU, VE.ev, VE.evs, retvs, tupOf, grab, vfill, vbsl, eqCells, eqCell, veqs, veqs1, vmnx, AV.isCell, AV.isUndef, Nat.reduceEqDiff, Nat.reduceAdd, Nat.reduceSub, Nat.reduceLeDiff, Nat.reduceLT, reduceIte, reduceCtorEq, Nat.reduceBEq, k_app, k_slc1]) | (with_reducible refine gs (fun _ => ?_) (fun _ => ?_)) | (with_reducible refine cs_ (fun _ => ?_) (fun _ => ?_)) | (with_reducible refine objQ_i (fun _ _ => ?_); (repeat (with_reducible refine imp_i (fun _ => ?_)))) | (with_reducible refine appK_a ?_) | (with_reducible refine freshQ_i (fun _ _ => ?_)) | (with_reducible refine nilQ_i (fun _ _ => ?_))))
  · rename_i b6 h6 n1 n2 n3 n4 hc
    have hne : ¬ (⟨t, ⟨m, c⟩⟩ : Seg).v = ⟨lm, lc⟩ := fun e => by simp only [Vec.mk.injEq] at e; simp [e.1, e.2] at hc
    rw [putF_yes hne]
    refine ⟨by simp [Seg.a, cells_agg], by simp [okEl, AV.cells, AV.isCell], by omega, by omega, ?_⟩
    have hob : (st.kill tk).objs = st.objs := kill_objs ..
    intro t' hf
    have hn' := ht.next (t' := t') (by simpa only [St.fresh, St.ins] using hf)
    (repeat' (first | (simp (config := { maxDischargeDepth := 16 }) only [*, ↓vD, vU, VE.ev, VE.evs, retvs, tupOf, grab, vfill, vbsl, eqCells, eqCell, veqs, veqs1, vmnx, AV.isCell, AV.isUndef, Nat.reduceEqDiff, Nat.reduceAdd, Nat.reduceSub, Nat.reduceLeDiff, Nat.reduceLT, reduceIte, reduceCtorEq, Nat.reduceBEq, k_app, k_slc1]) | (with_reducible refine gs (fun _ => ?_) (fun _ => ?_)) | (with_reducible refine cs_ (fun _ => ?_) (fun _ => ?_)) | (with_reducible refine objQ_i (fun _ _ => ?_); (repeat (with_reducible refine imp_i (fun _ => ?_)))) | (with_reducible refine appK_a ?_) | (with_reducible refine freshQ_i (fun _ _ => ?_)) | (with_reducible refine nilQ_i (fun _ _ => ?_))))
    refine ⟨_, ?_, t', _, hn', rfl⟩
    simp only [List.map_append, List.map_cons, List.map_nil, Seg.a]
    (refine ⟨fun i o e => ?_, fun _ h => h⟩; revert e; simp only [St.ins, add_objs, kill_objs]; (repeat' split); all_goals (first | exact id | (intros; contradiction) | (intros; subst_vars; contradiction) | (intros; simp_all; done) | (intros; subst_vars; simp_all; done)))
  · rename_i b6 h6 n1 n2 n3 n4 hc
    have hne : (⟨t, ⟨m, c⟩⟩ : Seg).v = ⟨lm, lc⟩ := by simpa using hc
    rw [putF_no hne]
    refine ⟨_, ?_, tk, _, ht, rfl⟩
    (refine ⟨fun i o e => ?_, fun _ h => h⟩; revert e; simp only [St.ins, add_objs, kill_objs]; (repeat' split); all_goals (first | exact id | (intros; contradiction) | (intros; subst_vars; contradiction) | (intros; simp_all; done) | (intros; subst_vars; simp_all; done)))
end Go.Proofs.Ytddbnncimggogaa.V
end
section
set_option linter.unusedSimpArgs false
set_option linter.unusedVariables false
/- rle.folded, Of, Box. -/
namespace Go.Proofs.Ytddbnncimggogaa.V
open Go Go.Proofs Go.Proofs.Ytddbnncimggogaa.SP
set_option maxRecDepth 100000
set_option maxHeartbeats 4000000
theorem le_ins_mono {s t : St} (h : s.le t) (b : Nat) (o : AObj) : (s.ins b o).le (t.ins b o) :=
  ⟨fun i x e => by simp only [St.ins] at e ⊢; split at e <;> rename_i hi <;> simp only [hi, if_true, if_false] at e ⊢; exact e; exact h.objs i x e, h.live⟩
/-- Loads out of a row that other objects lie beside. -/
theorem far_load {zs : List Seg} {rest : List AV} {b : Nat} {S : St} (h : S.objs b = some (.cells (fl Seg.a zs ++ rest))) {k : Nat} (hk : k < zs.length) : vload S (.ptr b (k * 3)) 3 true = some (.agg [.int .i64 zs[k].t, .int .i64 zs[k].v.m, .int .i64 zs[k].v.c]) ∧ vload S (.ptr b (k * 3 + 0)) 1 false = some (.int .i64 zs[k].t) := by
  obtain ⟨_, h2, _⟩ := fl_at Seg.a 3 Seg.ok zs rest k hk
  have hl := fl_len Seg.a 3 Seg.ok zs
  have hg : zs.getD k default = zs[k] := by simp [List.getD_eq_getElem?_getD, List.getElem?_eq_getElem hk]
  rw [hg] at h2
  have hle : k * 3 + 3 ≤ (fl Seg.a zs ++ rest).length := by rw [List.length_append, hl]; omega
  refine ⟨?_, ?_⟩
  · simp only [vload, h, grab]
    rw [if_pos hle, h2]; rfl
  · simp only [vload, h, grab]
    rw [if_pos (by omega), if_neg (by simp)]
    have h3 := congrArg (·[0]?) h2
    simpa [Seg.a, cells_agg] using h3
theorem folded_v (xs : List Seg) (hn : xs.length ≤ 100000000) (t : Tok) : VPure Try.prog 56 [.sl (xs.map Seg.a) t] (.sl ((foldF xs).map Seg.a) .no) := by
  refine VPure.tok (fun Z st => ?_)
  refine VCalls.of v_rle_folded_ok (Nat.le_of_ble_eq_true rfl) ?_
  simp only [v_rle_folded, ↓vD, vU, VE.ev, VE.evs, retvs, tupOf, grab, vfill, vbsl, eqCells, eqCell, veqs, veqs1, vmnx, AV.isCell, AV.isUndef, Nat.reduceEqDiff, Nat.reduceAdd, Nat.reduceSub, Nat.reduceLeDiff, Nat.reduceLT, reduceIte, reduceCtorEq, Nat.reduceBEq, k_app, k_slc1]
  (repeat' (first | (simp (config := { maxDischargeDepth := 16 }) only [*, vX, Int.reduceLE, Int.reduceLT, Int.reduceGE, Int.reduceGT, Int.reduceBEq, Int.reduceBNe, Int.reduceAdd, Int.reduceSub, Int.reduceMul, Int.reduceNeg, ↓vD, vU, VE.ev, VE.evs, retvs, tupOf, grab, vfill, vbsl, eqCells, eqCell, veqs, veqs1, vmnx, AV.isCell, AV.isUndef, Nat.reduceEqDiff, Nat.reduceAdd, Nat.reduceSub, Nat.reduceLeDiff, Nat.reduceLT, reduceIte, reduceCtorEq, Nat.reduceBEq]) | (simp (disch := first | assumption | omega | exact Seg.len _ | exact Vec.len _ | exact Leg.len _ | exact num_len _ | exact rowA_len _ | exact rowA_len | exact rowT_len _ | exact rowT_len | exact Seg.len | exact Vec.len | exact Leg.len | exact num_len | exact AV.slen _ _ | rfl) only [vP]) | (with_reducible (first | refine gsnd (fun _ => ?_) (fun _ => ?_) | refine csnd (fun _ => ?_) (fun _ => ?_) | refine gsd (fun _ => ?_) (fun _ => ?_) | refine csd (fun _ => ?_) (fun _ => ?_) | refine gsn (fun _ => ?_) (fun _ => ?_) | refine csn (fun _ => ?_) (fun _ => ?_))) | (with_reducible refine gs (fun _ => ?_) (fun _ => ?_)) | (with_reducible refine cs_ (fun _ => ?_) (fun _ => ?_)) | (with_reducible refine objQ_i (fun _ _ => ?_); (repeat (with_reducible refine imp_i (fun _ => ?_)))) | ((try with_reducible refine appK_a ?_); first | (with_reducible refine appD_F (by refine ⟨?_, ?_, ?_, ?_⟩ <;> (first | assumption | omega | exact St.has_add (by assumption) | (simp only [ins_has]; exact St.has_add (by assumption)) | (simp only [ins_has, fresh_ins, kill_ins, add_ins] at *; exact St.has_add (by assumption)) | (simp only [*, ins_has, has_full, St.has_add]; done) | (simp [-List.map_take, -List.map_drop, or_imp, forall_and, Seg.a, Vec.a, Leg.a, num, okEl, cells_agg, cells_int, cells_sl, cells_bool, AV.isCell]; done) | (simp; omega))) (fun _ _ => ?_)) | (with_reducible refine appD_V (by refine ⟨?_, ?_, ?_, ?_, ?_⟩ <;> (first | assumption | omega | exact St.has_add (by assumption) | (simp only [ins_has]; exact St.has_add (by assumption)) | (simp only [ins_has, fresh_ins, kill_ins, add_ins] at *; exact St.has_add (by assumption)) | (simp only [*, ins_has, has_full, St.has_add]; done) | (simp [-List.map_take, -List.map_drop, or_imp, forall_and, Seg.a, Vec.a, Leg.a, num, okEl, cells_agg, cells_int, cells_sl, cells_bool, AV.isCell]; done) | (simp; omega))) (fun _ _ => ?_))) | (with_reducible refine freshQ_i (fun _ _ => ?_)) | (with_reducible refine nilQ_i (fun _ _ => ?_))))
  refine callH_then (Clone_v xs (by omega) t st) ?_
  rintro v s (⟨rfl, t', rfl, rfl⟩ | ⟨b, c, rest, hne, hb, rfl, rfl⟩)
  · (repeat' (first | (simp (config := { maxDischargeDepth := 16 }) only [*, vX, Int.reduceLE, Int.reduceLT, Int.reduceGE, Int.reduceGT, Int.reduceBEq, Int.reduceBNe, Int.reduceAdd, Int.reduceSub, Int.reduceMul, Int.reduceNeg, ↓vD, vU, VE.ev, VE.evs, retvs, tupOf, grab, vfill, vbsl, eqCells, eqCell, veqs, veqs1, vmnx, AV.isCell, AV.isUndef, Nat.reduceEqDiff, Nat.reduceAdd, Nat.reduceSub, Nat.reduceLeDiff, Nat.reduceLT, reduceIte, reduceCtorEq, Nat.reduceBEq]) | (simp (disch := first | assumption | omega | exact Seg.len _ | exact Vec.len _ | exact Leg.len _ | exact num_len _ | exact rowA_len _ | exact rowA_len | exact rowT_len _ | exact rowT_len | exact Seg.len | exact Vec.len | exact Leg.len | exact num_len | exact AV.slen _ _ | rfl) only [vP]) | (with_reducible (first | refine gsnd (fun _ => ?_) (fun _ => ?_) | refine csnd (fun _ => ?_) (fun _ => ?_) | refine gsd (fun _ => ?_) (fun _ => ?_) | refine csd (fun _ => ?_) (fun _ => ?_) | refine gsn (fun _ => ?_) (fun _ => ?_) | refine csn (fun _ => ?_) (fun _ => ?_))) | (with_reducible refine gs (fun _ => ?_) (fun _ => ?_)) | (with_reducible refine cs_ (fun _ => ?_) (fun _ => ?_)) | (with_reducible refine objQ_i (fun _ _ => ?_); (repeat (with_reducible refine imp_i (fun _ => ?_)))) | ((try with_reducible refine appK_a ?_); first | (with_reducible refine appD_F (by refine ⟨?_, ?_, ?_, ?_⟩ <;> (first | assumption | omega | exact St.has_add (by assumption) | (simp only [ins_has]; exact St.has_add (by assumption)) | (simp only [ins_has, fresh_ins, kill_ins, add_ins] at *; exact St.has_add (by assumption)) | (simp only [*, ins_has, has_full, St.has_add]; done) | (simp [-List.map_take, -List.map_drop, or_imp, forall_and, Seg.a, Vec.a, Leg.a, num, okEl, cells_agg, cells_int, cells_sl, cells_bool, AV.isCell]; done) | (simp; omega))) (fun _ _ => ?_)) | (with_reducible refine appD_V (by refine ⟨?_, ?_, ?_, ?_, ?_⟩ <;> (first | assumption | omega | exact St.has_add (by assumption) | (simp only [ins_has]; exact St.has_add (by assumption)) | (simp only [ins_has, fresh_ins, kill_ins, add_ins] at *; exact St.has_add (by assumption)) | (simp only [*, ins_has, has_full, St.has_add]; done) | (simp [-List.map_take, -List.map_drop, or_imp, forall_and, Seg.a, Vec.a, Leg.a, num, okEl, cells_agg, cells_int, cells_sl, cells_bool, AV.isCell]; done) | (simp; omega))) (fun _ _ => ?_))) | (with_reducible refine freshQ_i (fun _ _ => ?_)) | (with_reducible refine nilQ_i (fun _ _ => ?_)) | (with_reducible first | refine callH_use (SoSeg.sortStable_nil _ _) ?_ | refine pureQ_use (SoSeg.sortStable_nil _ _) ?_)))
    rename_i b4 h4 b5 h5 n1 n2
    refine loop_out ?_
    (repeat' (first | (simp (config := { maxDischargeDepth := 16 }) only [*, vX, Int.reduceLE, Int.reduceLT, Int.reduceGE, Int.reduceGT, Int.reduceBEq, Int.reduceBNe, Int.reduceAdd, Int.reduceSub, Int.reduceMul, Int.reduceNeg, ↓vD, vU, VE.ev, VE.evs, retvs, tupOf, grab, vfill, vbsl, eqCells, eqCell, veqs, veqs1, vmnx, AV.isCell, AV.isUndef, Nat.reduceEqDiff, Nat.reduceAdd, Nat.reduceSub, Nat.reduceLeDiff, Nat.reduceLT, reduceIte, reduceCtorEq, Nat.reduceBEq]) | (simp (disch := first | assumption | omega | exact Seg.len _ | exact Vec.len _ | exact Leg.len _ | exact num_len _ | exact rowA_len _ | exact rowA_len | exact rowT_len _ | exact rowT_len | exact Seg.len | exact Vec.len | exact Leg.len | exact num_len | exact AV.slen _ _ | rfl) only [vP]) | (with_reducible (first | refine gsnd (fun _ => ?_) (fun _ => ?_) | refine csnd (fun _ => ?_) (fun _ => ?_) | refine gsd (fun _ => ?_) (fun _ => ?_) | refine csd (fun _ => ?_) (fun _ => ?_) | refine gsn (fun _ => ?_) (fun _ => ?_) | refine csn (fun _ => ?_) (fun _ => ?_))) | (with_reducible refine gs (fun _ => ?_) (fun _ => ?_)) | (with_reducible refine cs_ (fun _ => ?_) (fun _ => ?_)) | (with_reducible refine objQ_i (fun _ _ => ?_); (repeat (with_reducible refine imp_i (fun _ => ?_)))) | ((try with_reducible refine appK_a ?_); first | (with_reducible refine appD_F (by refine ⟨?_, ?_, ?_, ?_⟩ <;> (first | assumption | omega | exact St.has_add (by assumption) | (simp only [ins_has]; exact St.has_add (by assumption)) | (simp only [ins_has, fresh_ins, kill_ins, add_ins] at *; exact St.has_add (by assumption)) | (simp only [*, ins_has, has_full, St.has_add]; done) | (simp [-List.map_take, -List.map_drop, or_imp, forall_and, Seg.a, Vec.a, Leg.a, num, okEl, cells_agg, cells_int, cells_sl, cells_bool, AV.isCell]; done) | (simp; omega))) (fun _ _ => ?_)) | (with_reducible refine appD_V (by refine ⟨?_, ?_, ?_, ?_, ?_⟩ <;> (first | assumption | omega | exact St.has_add (by assumption) | (simp only [ins_has]; exact St.has_add (by assumption)) | (simp only [ins_has, fresh_ins, kill_ins, add_ins] at *; exact St.has_add (by assumption)) | (simp only [*, ins_has, has_full, St.has_add]; done) | (simp [-List.map_take, -List.map_drop, or_imp, forall_and, Seg.a, Vec.a, Leg.a, num, okEl, cells_agg, cells_int, cells_sl, cells_bool, AV.isCell]; done) | (simp; omega))) (fun _ _ => ?_))) | (with_reducible refine freshQ_i (fun _ _ => ?_)) | (with_reducible refine nilQ_i (fun _ _ => ?_))))
    exact ⟨s, by (refine ⟨fun i o e => ?_, fun _ h => h⟩; revert e; simp only [St.ins, add_objs, kill_objs]; (repeat' split); all_goals (first | exact id | (intros; contradiction) | (intros; subst_vars; contradiction) | (intros; simp_all; done) | (intros; subst_vars; simp_all; done))), .full, rfl, rfl⟩
  · have hsort := SoSeg.sortStable (Z := Z) Seg.a Seg.ok Seg.ag (gf := 103) (fs := [.osl b xs.length c]) (cs := []) cmpS swoS (fun x y => compare_v _ _ _ _ _ _ _) st b xs.length c rest xs rfl (by omega)
    have HS := Hid.mk hsort
    clear hsort
    (repeat' (first | (simp (config := { maxDischargeDepth := 16 }) only [*, vX, Int.reduceLE, Int.reduceLT, Int.reduceGE, Int.reduceGT, Int.reduceBEq, Int.reduceBNe, Int.reduceAdd, Int.reduceSub, Int.reduceMul, Int.reduceNeg, ↓vD, vU, VE.ev, VE.evs, retvs, tupOf, grab, vfill, vbsl, eqCells, eqCell, veqs, veqs1, vmnx, AV.isCell, AV.isUndef, Nat.reduceEqDiff, Nat.reduceAdd, Nat.reduceSub, Nat.reduceLeDiff, Nat.reduceLT, reduceIte, reduceCtorEq, Nat.reduceBEq]) | (simp (disch := first | assumption | omega | exact Seg.len _ | exact Vec.len _ | exact Leg.len _ | exact num_len _ | exact rowA_len _ | exact rowA_len | exact rowT_len _ | exact rowT_len | exact Seg.len | exact Vec.len | exact Leg.len | exact num_len | exact AV.slen _ _ | rfl) only [vP]) | (with_reducible (first | refine gsnd (fun _ => ?_) (fun _ => ?_) | refine csnd (fun _ => ?_) (fun _ => ?_) | refine gsd (fun _ => ?_) (fun _ => ?_) | refine csd (fun _ => ?_) (fun _ => ?_) | refine gsn (fun _ => ?_) (fun _ => ?_) | refine csn (fun _ => ?_) (fun _ => ?_))) | (with_reducible refine gs (fun _ => ?_) (fun _ => ?_)) | (with_reducible refine cs_ (fun _ => ?_) (fun _ => ?_)) | (with_reducible refine objQ_i (fun _ _ => ?_); (repeat (with_reducible refine imp_i (fun _ => ?_)))) | ((try with_reducible refine appK_a ?_); first | (with_reducible refine appD_F (by refine ⟨?_, ?_, ?_, ?_⟩ <;> (first | assumption | omega | exact St.has_add (by assumption) | (simp only [ins_has]; exact St.has_add (by assumption)) | (simp only [ins_has, fresh_ins, kill_ins, add_ins] at *; exact St.has_add (by assumption)) | (simp only [*, ins_has, has_full, St.has_add]; done) | (simp [-List.map_take, -List.map_drop, or_imp, forall_and, Seg.a, Vec.a, Leg.a, num, okEl, cells_agg, cells_int, cells_sl, cells_bool, AV.isCell]; done) | (simp; omega))) (fun _ _ => ?_)) | (with_reducible refine appD_V (by refine ⟨?_, ?_, ?_, ?_, ?_⟩ <;> (first | assumption | omega | exact St.has_add (by assumption) | (simp only [ins_has]; exact St.has_add (by assumption)) | (simp only [ins_has, fresh_ins, kill_ins, add_ins] at *; exact St.has_add (by assumption)) | (simp only [*, ins_has, has_full, St.has_add]; done) | (simp [-List.map_take, -List.map_drop, or_imp, forall_and, Seg.a, Vec.a, Leg.a, num, okEl, cells_agg, cells_int, cells_sl, cells_bool, AV.isCell]; done) | (simp; omega))) (fun _ _ => ?_))) | (with_reducible refine freshQ_i (fun _ _ => ?_)) | (with_reducible refine nilQ_i (fun _ _ => ?_))))
    refine callH_then HS.out ?_
    rintro _ _ ⟨rfl, rfl⟩
    clear HS
    have hzl : (sortS (ltB cmpS) xs).length = xs.length := (sortS_stb swoS xs).1.symm
    obtain ⟨zs, hzs⟩ : ∃ zs, sortS (ltB cmpS) xs = zs := ⟨_, rfl⟩
    have hfold : foldF xs = foldB zs [] v0 := by unfold foldF; rw [hzs]
    rw [hzs] at hzl ⊢
    obtain ⟨S0, hS0⟩ : ∃ S0, ob st b Seg.a rest zs = S0 := ⟨_, rfl⟩
    have hSb : S0.objs b = some (.cells (fl Seg.a zs ++ rest)) := by rw [← hS0]; exact ob_objs ..
    have hSle : st.le S0 := by rw [← hS0]; unfold ob; (refine ⟨fun i o e => ?_, fun _ h => h⟩; revert e; simp only [St.ins, add_objs, kill_objs]; (repeat' split); all_goals (first | exact id | (intros; contradiction) | (intros; subst_vars; contradiction) | (intros; simp_all; done) | (intros; subst_vars; simp_all; done)))
    rw [hS0]
    obtain ⟨n, hnn⟩ : ∃ n, xs.length = n := ⟨_, rfl⟩
    rw [hnn] at hzl hn ⊢
    have HF := Hid.mk hfold
    have HB := Hid.mk hSb
    have hlen : ∀ (b n c : Nat), vlen (.osl b n c) = some (.int .i64 n) := fun _ _ _ => rfl
    clear hS0 hfold hSb hzs hnn hne
    (repeat' (first | (simp (config := { maxDischargeDepth := 16 }) only [*, vX, Int.reduceLE, Int.reduceLT, Int.reduceGE, Int.reduceGT, Int.reduceBEq, Int.reduceBNe, Int.reduceAdd, Int.reduceSub, Int.reduceMul, Int.reduceNeg, ↓vD, vU, VE.ev, VE.evs, retvs, tupOf, grab, vfill, vbsl, eqCells, eqCell, veqs, veqs1, vmnx, AV.isCell, AV.isUndef, Nat.reduceEqDiff, Nat.reduceAdd, Nat.reduceSub, Nat.reduceLeDiff, Nat.reduceLT, reduceIte, reduceCtorEq, Nat.reduceBEq]) | (simp (disch := first | assumption | omega | exact Seg.len _ | exact Vec.len _ | exact Leg.len _ | exact num_len _ | exact rowA_len _ | exact rowA_len | exact rowT_len _ | exact rowT_len | exact Seg.len | exact Vec.len | exact Leg.len | exact num_len | exact AV.slen _ _ | rfl) only [vP]) | (with_reducible (first | refine gsnd (fun _ => ?_) (fun _ => ?_) | refine csnd (fun _ => ?_) (fun _ => ?_) | refine gsd (fun _ => ?_) (fun _ => ?_) | refine csd (fun _ => ?_) (fun _ => ?_) | refine gsn (fun _ => ?_) (fun _ => ?_) | refine csn (fun _ => ?_) (fun _ => ?_))) | (with_reducible refine gs (fun _ => ?_) (fun _ => ?_)) | (with_reducible refine cs_ (fun _ => ?_) (fun _ => ?_)) | (with_reducible refine objQ_i (fun _ _ => ?_); (repeat (with_reducible refine imp_i (fun _ => ?_)))) | ((try with_reducible refine appK_a ?_); first | (with_reducible refine appD_F (by refine ⟨?_, ?_, ?_, ?_⟩ <;> (first | assumption | omega | exact St.has_add (by assumption) | (simp only [ins_has]; exact St.has_add (by assumption)) | (simp only [ins_has, fresh_ins, kill_ins, add_ins] at *; exact St.has_add (by assumption)) | (simp only [*, ins_has, has_full, St.has_add]; done) | (simp [-List.map_take, -List.map_drop, or_imp, forall_and, Seg.a, Vec.a, Leg.a, num, okEl, cells_agg, cells_int, cells_sl, cells_bool, AV.isCell]; done) | (simp; omega))) (fun _ _ => ?_)) | (with_reducible refine appD_V (by refine ⟨?_, ?_, ?_, ?_, ?_⟩ <;> (first | assumption | omega | exact St.has_add (by assumption) | (simp only [ins_has]; exact St.has_add (by assumption)) | (simp only [ins_has, fresh_ins, kill_ins, add_ins] at *; exact St.has_add (by assumption)) | (simp only [*, ins_has, has_full, St.has_add]; done) | (simp [-List.map_take, -List.map_drop, or_imp, forall_and, Seg.a, Vec.a, Leg.a, num, okEl, cells_agg, cells_int, cells_sl, cells_bool, AV.isCell]; done) | (simp; omega))) (fun _ _ => ?_))) | (with_reducible refine freshQ_i (fun _ _ => ?_)) | (with_reducible refine nilQ_i (fun _ _ => ?_))))
    rename_i b4 h4 b5 h5 n54 n45
    refine loopf_of (len := n) (by simp only [asgL, dsts, List.cons_append, List.nil_append, List.append_nil]; rfl) (by simp only [noR, Bool.and_true, Bool.and_false]; rfl) (by omega) (fun k fr s => ∃ acc l tk S', s = (S'.ins b4 (.cells [.sl (acc.map Seg.a) tk])).ins b5 (.cells [.int .i64 l.m, .int .i64 l.c]) ∧ Ours 3 S0 S' tk ∧ fr.t 18 = .int .i64 k ∧ acc.length ≤ k ∧ Hid (foldB (zs.drop k) acc l = foldF xs)) ?_ ?_ ?_
    · exact ⟨[], v0, .full, S0, rfl, Ours.full 3 S0, by simp [↓vD, vU, VE.ev, VE.evs, retvs, tupOf, grab, vfill, vbsl, eqCells, eqCell, veqs, veqs1, vmnx, AV.isCell, AV.isUndef, Nat.reduceEqDiff, Nat.reduceAdd, Nat.reduceSub, Nat.reduceLeDiff, Nat.reduceLT, reduceIte, reduceCtorEq, Nat.reduceBEq, k_app, k_slc1], by simp, ⟨by rw [HF.out]; rfl⟩⟩
    · rintro k fr s hk hw hf hd ⟨acc, l, tk, S', rfl, ho, h18, hal, HK⟩
      have h4' : S'.objs b4 = none := by rw [ho.objs]; exact h4
      have h5' : S'.objs b5 = none := by rw [ho.objs]; exact h5
      have hb' : S'.objs b = some (.cells (fl Seg.a zs ++ rest)) := by rw [ho.objs]; exact HB.out
      have nb4 : ¬ b = b4 := fun e => by rw [e, h4'] at hb'; cases hb'
      have nb5 : ¬ b = b5 := fun e => by rw [e, h5'] at hb'; cases hb'
      have hkz : k < zs.length := by omega
      have hia : viad 3 (.osl b n c) (.int .i64 (k : Int)) = some (.ptr b (k * 3)) := ob_iad b n c .i64 k 3 hk
      have hld : ∀ o4 o5, vload ((S'.ins b4 o4).ins b5 o5) (.ptr b (k * 3)) 3 true = some (.agg [.int .i64 zs[k].t, .int .i64 zs[k].v.m, .int .i64 zs[k].v.c]) := fun o4 o5 => (far_load (rest := rest) (by simp [St.ins, nb4, nb5, hb']) hkz).1
      obtain ⟨x, hx⟩ : ∃ x, zs[k] = x := ⟨_, rfl⟩
      simp only [hx] at hld
      have HX := Hid.mk hx
      have HO := Hid.mk hb'
      clear hx hb'
      by_cases hlast : k + 1 = n
      · have e1 : ((k : Int) + 1 == n) = true := by simp; omega
        have HG : Hid (foldB (zs.drop k) acc l = foldB (zs.drop (k + 1)) (putF acc l x).1 (putF acc l x).2) := ⟨by rw [foldB_go zs acc l k hkz (.inl (by omega)), HX.out]⟩
        have HL := Hid.mk hlast
        clear hlast
        (repeat' (first | (simp (config := { maxDischargeDepth := 16 }) only [*, vX, Int.reduceLE, Int.reduceLT, Int.reduceGE, Int.reduceGT, Int.reduceBEq, Int.reduceBNe, Int.reduceAdd, Int.reduceSub, Int.reduceMul, Int.reduceNeg, ↓vD, vU, VE.ev, VE.evs, retvs, tupOf, grab, vfill, vbsl, eqCells, eqCell, veqs, veqs1, vmnx, AV.isCell, AV.isUndef, Nat.reduceEqDiff, Nat.reduceAdd, Nat.reduceSub, Nat.reduceLeDiff, Nat.reduceLT, reduceIte, reduceCtorEq, Nat.reduceBEq]) | (simp (disch := first | assumption | omega | exact Seg.len _ | exact Vec.len _ | exact Leg.len _ | exact num_len _ | exact rowA_len _ | exact rowA_len | exact rowT_len _ | exact rowT_len | exact Seg.len | exact Vec.len | exact Leg.len | exact num_len | exact AV.slen _ _ | rfl) only [vP]) | (with_reducible (first | refine gsnd (fun _ => ?_) (fun _ => ?_) | refine csnd (fun _ => ?_) (fun _ => ?_) | refine gsd (fun _ => ?_) (fun _ => ?_) | refine csd (fun _ => ?_) (fun _ => ?_) | refine gsn (fun _ => ?_) (fun _ => ?_) | refine csn (fun _ => ?_) (fun _ => ?_))) | (with_reducible refine gs (fun _ => ?_) (fun _ => ?_)) | (with_reducible refine cs_ (fun _ => ?_) (fun _ => ?_)) | (with_reducible refine objQ_i (fun _ _ => ?_); (repeat (with_reducible refine imp_i (fun _ => ?_)))) | ((try with_reducible refine appK_a ?_); first | (with_reducible refine appD_F (by refine ⟨?_, ?_, ?_, ?_⟩ <;> (first | assumption | omega | exact St.has_add (by assumption) | (simp only [ins_has]; exact St.has_add (by assumption)) | (simp only [ins_has, fresh_ins, kill_ins, add_ins] at *; exact St.has_add (by assumption)) | (simp only [*, ins_has, has_full, St.has_add]; done) | (simp [-List.map_take, -List.map_drop, or_imp, forall_and, Seg.a, Vec.a, Leg.a, num, okEl, cells_agg, cells_int, cells_sl, cells_bool, AV.isCell]; done) | (simp; omega))) (fun _ _ => ?_)) | (with_reducible refine appD_V (by refine ⟨?_, ?_, ?_, ?_, ?_⟩ <;> (first | assumption | omega | exact St.has_add (by assumption) | (simp only [ins_has]; exact St.has_add (by assumption)) | (simp only [ins_has, fresh_ins, kill_ins, add_ins] at *; exact St.has_add (by assumption)) | (simp only [*, ins_has, has_full, St.has_add]; done) | (simp [-List.map_take, -List.map_drop, or_imp, forall_and, Seg.a, Vec.a, Leg.a, num, okEl, cells_agg, cells_int, cells_sl, cells_bool, AV.isCell]; done) | (simp; omega))) (fun _ _ => ?_))) | (with_reducible refine freshQ_i (fun _ _ => ?_)) | (with_reducible refine nilQ_i (fun _ _ => ?_))))
        rename_i b8 h8 n84 n48 n85 n58
        refine callH_eq (put_v (Z := Z) ((S'.ins b8 (.cells [.int .i64 x.t, .int .i64 x.v.m, .int .i64 x.v.c])).kill tk) (S'.ins b8 (.cells [.int .i64 x.t, .int .i64 x.v.m, .int .i64 x.v.c])) b4 b5 (by simp [St.ins, h4', n48]) (by simp [St.ins, h5', n58]) n54 acc tk l x.t x.v.m x.v.c (by omega) (Ours.self (by rw [ins_has]; exact ho.has))) (by simp only [St.ins]; congr 1; funext i; (repeat' split) <;> (first | rfl | contradiction | (subst_vars; contradiction) | (subst_vars; rfl))) ?_
        rintro _ _ ⟨rfl, tk', st', ho', rfl⟩
        obtain ⟨ho2, hle2⟩ := ho.drop h8 ho'
        (repeat' (first | (simp (config := { maxDischargeDepth := 16 }) only [*, vX, Int.reduceLE, Int.reduceLT, Int.reduceGE, Int.reduceGT, Int.reduceBEq, Int.reduceBNe, Int.reduceAdd, Int.reduceSub, Int.reduceMul, Int.reduceNeg, ↓vD, vU, VE.ev, VE.evs, retvs, tupOf, grab, vfill, vbsl, eqCells, eqCell, veqs, veqs1, vmnx, AV.isCell, AV.isUndef, Nat.reduceEqDiff, Nat.reduceAdd, Nat.reduceSub, Nat.reduceLeDiff, Nat.reduceLT, reduceIte, reduceCtorEq, Nat.reduceBEq]) | (simp (disch := first | assumption | omega | exact Seg.len _ | exact Vec.len _ | exact Leg.len _ | exact num_len _ | exact rowA_len _ | exact rowA_len | exact rowT_len _ | exact rowT_len | exact Seg.len | exact Vec.len | exact Leg.len | exact num_len | exact AV.slen _ _ | rfl) only [vP]) | (with_reducible (first | refine gsnd (fun _ => ?_) (fun _ => ?_) | refine csnd (fun _ => ?_) (fun _ => ?_) | refine gsd (fun _ => ?_) (fun _ => ?_) | refine csd (fun _ => ?_) (fun _ => ?_) | refine gsn (fun _ => ?_) (fun _ => ?_) | refine csn (fun _ => ?_) (fun _ => ?_))) | (with_reducible refine gs (fun _ => ?_) (fun _ => ?_)) | (with_reducible refine cs_ (fun _ => ?_) (fun _ => ?_)) | (with_reducible refine objQ_i (fun _ _ => ?_); (repeat (with_reducible refine imp_i (fun _ => ?_)))) | ((try with_reducible refine appK_a ?_); first | (with_reducible refine appD_F (by refine ⟨?_, ?_, ?_, ?_⟩ <;> (first | assumption | omega | exact St.has_add (by assumption) | (simp only [ins_has]; exact St.has_add (by assumption)) | (simp only [ins_has, fresh_ins, kill_ins, add_ins] at *; exact St.has_add (by assumption)) | (simp only [*, ins_has, has_full, St.has_add]; done) | (simp [-List.map_take, -List.map_drop, or_imp, forall_and, Seg.a, Vec.a, Leg.a, num, okEl, cells_agg, cells_int, cells_sl, cells_bool, AV.isCell]; done) | (simp; omega))) (fun _ _ => ?_)) | (with_reducible refine appD_V (by refine ⟨?_, ?_, ?_, ?_, ?_⟩ <;> (first | assumption | omega | exact St.has_add (by assumption) | (simp only [ins_has]; exact St.has_add (by assumption)) | (simp only [ins_has, fresh_ins, kill_ins, add_ins] at *; exact St.has_add (by assumption)) | (simp only [*, ins_has, has_full, St.has_add]; done) | (simp [-List.map_take, -List.map_drop, or_imp, forall_and, Seg.a, Vec.a, Leg.a, num, okEl, cells_agg, cells_int, cells_sl, cells_bool, AV.isCell]; done) | (simp; omega))) (fun _ _ => ?_))) | (with_reducible refine freshQ_i (fun _ _ => ?_)) | (with_reducible refine nilQ_i (fun _ _ => ?_))))
        exact ⟨_, le_ins_mono (le_ins_mono hle2 _ _) _ _, (putF acc l x).1, (putF acc l x).2, tk', _, rfl, ho2, Nat.le_trans (putF_len acc l x) (by omega), ⟨HG.out.symm.trans HK.out⟩⟩
      · have hk1 : k + 1 < n := by omega
        have hk1z : k + 1 < zs.length := by omega
        have e1 : ((k : Int) + 1 == n) = false := by simp; omega
        have hia2 : viad 3 (.osl b n c) (.int .i64 ((k : Int) + 1)) = some (.ptr b ((k + 1) * 3)) := ob_iad b n c .i64 (k + 1) 3 hk1
        have hld2 : ∀ o4 o5 b8 o8, S'.objs b8 = none → vload (((S'.ins b4 o4).ins b5 o5).ins b8 o8) (.ptr b ((k + 1) * 3)) 1 false = some (.int .i64 zs[k + 1].t) := fun o4 o5 b8 o8 h8 => (far_load (rest := rest) (by
          have nb8 : ¬ b = b8 := fun e => by have := HO.out; rw [e, h8] at this; cases this
          simp [St.ins, nb4, nb5, nb8, HO.out]) hk1z).2
        obtain ⟨u, hu⟩ : ∃ u, zs[k + 1].t = u := ⟨_, rfl⟩
        simp only [hu] at hld2
        by_cases hne : u = x.t
        · have HG : Hid (foldB (zs.drop k) acc l = foldB (zs.drop (k + 1)) acc l) := ⟨foldB_stay zs acc l k hk1z (by rw [hu, HX.out, hne])⟩
          clear hlast hu
          (repeat' (first | (simp (config := { maxDischargeDepth := 16 }) only [*, vX, Int.reduceLE, Int.reduceLT, Int.reduceGE, Int.reduceGT, Int.reduceBEq, Int.reduceBNe, Int.reduceAdd, Int.reduceSub, Int.reduceMul, Int.reduceNeg, ↓vD, vU, VE.ev, VE.evs, retvs, tupOf, grab, vfill, vbsl, eqCells, eqCell, veqs, veqs1, vmnx, AV.isCell, AV.isUndef, Nat.reduceEqDiff, Nat.reduceAdd, Nat.reduceSub, Nat.reduceLeDiff, Nat.reduceLT, reduceIte, reduceCtorEq, Nat.reduceBEq]) | (simp (disch := first | assumption | omega | exact Seg.len _ | exact Vec.len _ | exact Leg.len _ | exact num_len _ | exact rowA_len _ | exact rowA_len | exact rowT_len _ | exact rowT_len | exact Seg.len | exact Vec.len | exact Leg.len | exact num_len | exact AV.slen _ _ | rfl) only [vP]) | (with_reducible (first | refine gsnd (fun _ => ?_) (fun _ => ?_) | refine csnd (fun _ => ?_) (fun _ => ?_) | refine gsd (fun _ => ?_) (fun _ => ?_) | refine csd (fun _ => ?_) (fun _ => ?_) | refine gsn (fun _ => ?_) (fun _ => ?_) | refine csn (fun _ => ?_) (fun _ => ?_))) | (with_reducible refine gs (fun _ => ?_) (fun _ => ?_)) | (with_reducible refine cs_ (fun _ => ?_) (fun _ => ?_)) | (with_reducible refine objQ_i (fun _ _ => ?_); (repeat (with_reducible refine imp_i (fun _ => ?_)))) | ((try with_reducible refine appK_a ?_); first | (with_reducible refine appD_F (by refine ⟨?_, ?_, ?_, ?_⟩ <;> (first | assumption | omega | exact St.has_add (by assumption) | (simp only [ins_has]; exact St.has_add (by assumption)) | (simp only [ins_has, fresh_ins, kill_ins, add_ins] at *; exact St.has_add (by assumption)) | (simp only [*, ins_has, has_full, St.has_add]; done) | (simp [-List.map_take, -List.map_drop, or_imp, forall_and, Seg.a, Vec.a, Leg.a, num, okEl, cells_agg, cells_int, cells_sl, cells_bool, AV.isCell]; done) | (simp; omega))) (fun _ _ => ?_)) | (with_reducible refine appD_V (by refine ⟨?_, ?_, ?_, ?_, ?_⟩ <;> (first | assumption | omega | exact St.has_add (by assumption) | (simp only [ins_has]; exact St.has_add (by assumption)) | (simp only [ins_has, fresh_ins, kill_ins, add_ins] at *; exact St.has_add (by assumption)) | (simp only [*, ins_has, has_full, St.has_add]; done) | (simp [-List.map_take, -List.map_drop, or_imp, forall_and, Seg.a, Vec.a, Leg.a, num, okEl, cells_agg, cells_int, cells_sl, cells_bool, AV.isCell]; done) | (simp; omega))) (fun _ _ => ?_))) | (with_reducible refine freshQ_i (fun _ _ => ?_)) | (with_reducible refine nilQ_i (fun _ _ => ?_))))
          rename_i b8 h8 n84 n48 n85 n58
          exact ⟨(S'.ins b4 (.cells [.sl (acc.map Seg.a) tk])).ins b5 (.cells [.int .i64 l.m, .int .i64 l.c]), by (refine ⟨fun i o e => ?_, fun _ h => h⟩; revert e; simp only [St.ins, add_objs, kill_objs]; (repeat' split); all_goals (first | exact id | (intros; contradiction) | (intros; subst_vars; contradiction) | (intros; simp_all; done) | (intros; subst_vars; simp_all; done))), acc, l, tk, S', rfl, ho, by omega, ⟨HG.out.symm.trans HK.out⟩⟩
        · have HG : Hid (foldB (zs.drop k) acc l = foldB (zs.drop (k + 1)) (putF acc l x).1 (putF acc l x).2) := ⟨by rw [foldB_go zs acc l k hkz (.inr ⟨hk1z, by rw [hu, HX.out]; exact hne⟩), HX.out]⟩
          clear hlast hu
          (repeat' (first | (simp (config := { maxDischargeDepth := 16 }) only [*, vX, Int.reduceLE, Int.reduceLT, Int.reduceGE, Int.reduceGT, Int.reduceBEq, Int.reduceBNe, Int.reduceAdd, Int.reduceSub, Int.reduceMul, Int.reduceNeg, ↓vD, vU, VE.ev, VE.evs, retvs, tupOf, grab, vfill, vbsl, eqCells, eqCell, veqs, veqs1, vmnx, AV.isCell, AV.isUndef, Nat.reduceEqDiff, Nat.reduceAdd, Nat.reduceSub, Nat.reduceLeDiff, Nat.reduceLT, reduceIte, reduceCtorEq, Nat.reduceBEq]) | (simp (disch := first | assumption | omega | exact Seg.len _ | exact Vec.len _ | exact Leg.len _ | exact num_len _ | exact rowA_len _ | exact rowA_len | exact rowT_len _ | exact rowT_len | exact Seg.len | exact Vec.len | exact Leg.len | exact num_len | exact AV.slen _ _ | rfl) only [vP]) | (with_reducible (first | refine gsnd (fun _ => ?_) (fun _ => ?_) | refine csnd (fun _ => ?_) (fun _ => ?_) | refine gsd (fun _ => ?_) (fun _ => ?_) | refine csd (fun _ => ?_) (fun _ => ?_) | refine gsn (fun _ => ?_) (fun _ => ?_) | refine csn (fun _ => ?_) (fun _ => ?_))) | (with_reducible refine gs (fun _ => ?_) (fun _ => ?_)) | (with_reducible refine cs_ (fun _ => ?_) (fun _ => ?_)) | (with_reducible refine objQ_i (fun _ _ => ?_); (repeat (with_reducible refine imp_i (fun _ => ?_)))) | ((try with_reducible refine appK_a ?_); first | (with_reducible refine appD_F (by refine ⟨?_, ?_, ?_, ?_⟩ <;> (first | assumption | omega | exact St.has_add (by assumption) | (simp only [ins_has]; exact St.has_add (by assumption)) | (simp only [ins_has, fresh_ins, kill_ins, add_ins] at *; exact St.has_add (by assumption)) | (simp only [*, ins_has, has_full, St.has_add]; done) | (simp [-List.map_take, -List.map_drop, or_imp, forall_and, Seg.a, Vec.a, Leg.a, num, okEl, cells_agg, cells_int, cells_sl, cells_bool, AV.isCell]; done) | (simp; omega))) (fun _ _ => ?_)) | (with_reducible refine appD_V (by refine ⟨?_, ?_, ?_, ?_, ?_⟩ <;> (first | assumption | omega | exact St.has_add (by assumption) | (simp only [ins_has]; exact St.has_add (by assumption)) | (simp only [ins_has, fresh_ins, kill_ins, add_ins] at *; exact St.has_add (by assumption)) | (simp only [*, ins_has, has_full, St.has_add]; done) | (simp [-List.map_take, -List.map_drop, or_imp, forall_and, Seg.a, Vec.a, Leg.a, num, okEl, cells_agg, cells_int, cells_sl, cells_bool, AV.isCell]; done) | (simp; omega))) (fun _ _ => ?_))) | (with_reducible refine freshQ_i (fun _ _ => ?_)) | (with_reducible refine nilQ_i (fun _ _ => ?_))))
          rename_i b8 h8 n84 n48 n85 n58
          refine callH_eq (put_v (Z := Z) ((S'.ins b8 (.cells [.int .i64 x.t, .int .i64 x.v.m, .int .i64 x.v.c])).kill tk) (S'.ins b8 (.cells [.int .i64 x.t, .int .i64 x.v.m, .int .i64 x.v.c])) b4 b5 (by simp [St.ins, h4', n48]) (by simp [St.ins, h5', n58]) n54 acc tk l x.t x.v.m x.v.c (by omega) (Ours.self (by rw [ins_has]; exact ho.has))) (by simp only [St.ins]; congr 1; funext i; (repeat' split) <;> (first | rfl | contradiction | (subst_vars; contradiction) | (subst_vars; rfl))) ?_
          rintro _ _ ⟨rfl, tk', st', ho', rfl⟩
          obtain ⟨ho2, hle2⟩ := ho.drop h8 ho'
          (repeat' (first | (simp (config := { maxDischargeDepth := 16 }) only [*, vX, Int.reduceLE, Int.reduceLT, Int.reduceGE, Int.reduceGT, Int.reduceBEq, Int.reduceBNe, Int.reduceAdd, Int.reduceSub, Int.reduceMul, Int.reduceNeg, ↓vD, vU, VE.ev, VE.evs, retvs, tupOf, grab, vfill, vbsl, eqCells, eqCell, veqs, veqs1, vmnx, AV.isCell, AV.isUndef, Nat.reduceEqDiff, Nat.reduceAdd, Nat.reduceSub, Nat.reduceLeDiff, Nat.reduceLT, reduceIte, reduceCtorEq, Nat.reduceBEq]) | (simp (disch := first | assumption | omega | exact Seg.len _ | exact Vec.len _ | exact Leg.len _ | exact num_len _ | exact rowA_len _ | exact rowA_len | exact rowT_len _ | exact rowT_len | exact Seg.len | exact Vec.len | exact Leg.len | exact num_len | exact AV.slen _ _ | rfl) only [vP]) | (with_reducible (first | refine gsnd (fun _ => ?_) (fun _ => ?_) | refine csnd (fun _ => ?_) (fun _ => ?_) | refine gsd (fun _ => ?_) (fun _ => ?_) | refine csd (fun _ => ?_) (fun _ => ?_) | refine gsn (fun _ => ?_) (fun _ => ?_) | refine csn (fun _ => ?_) (fun _ => ?_))) | (with_reducible refine gs (fun _ => ?_) (fun _ => ?_)) | (with_reducible refine cs_ (fun _ => ?_) (fun _ => ?_)) | (with_reducible refine objQ_i (fun _ _ => ?_); (repeat (with_reducible refine imp_i (fun _ => ?_)))) | ((try with_reducible refine appK_a ?_); first | (with_reducible refine appD_F (by refine ⟨?_, ?_, ?_, ?_⟩ <;> (first | assumption | omega | exact St.has_add (by assumption) | (simp only [ins_has]; exact St.has_add (by assumption)) | (simp only [ins_has, fresh_ins, kill_ins, add_ins] at *; exact St.has_add (by assumption)) | (simp only [*, ins_has, has_full, St.has_add]; done) | (simp [-List.map_take, -List.map_drop, or_imp, forall_and, Seg.a, Vec.a, Leg.a, num, okEl, cells_agg, cells_int, cells_sl, cells_bool, AV.isCell]; done) | (simp; omega))) (fun _ _ => ?_)) | (with_reducible refine appD_V (by refine ⟨?_, ?_, ?_, ?_, ?_⟩ <;> (first | assumption | omega | exact St.has_add (by assumption) | (simp only [ins_has]; exact St.has_add (by assumption)) | (simp only [ins_has, fresh_ins, kill_ins, add_ins] at *; exact St.has_add (by assumption)) | (simp only [*, ins_has, has_full, St.has_add]; done) | (simp [-List.map_take, -List.map_drop, or_imp, forall_and, Seg.a, Vec.a, Leg.a, num, okEl, cells_agg, cells_int, cells_sl, cells_bool, AV.isCell]; done) | (simp; omega))) (fun _ _ => ?_))) | (with_reducible refine freshQ_i (fun _ _ => ?_)) | (with_reducible refine nilQ_i (fun _ _ => ?_))))
          exact ⟨_, le_ins_mono (le_ins_mono hle2 _ _) _ _, (putF acc l x).1, (putF acc l x).2, tk', _, rfl, ho2, Nat.le_trans (putF_len acc l x) (by omega), ⟨HG.out.symm.trans HK.out⟩⟩
    · rintro fr s hf hd ⟨acc, l, tk, S', rfl, ho, h18, hal, HK⟩
      have h4' : S'.objs b4 = none := by rw [ho.objs]; exact h4
      have h5' : S'.objs b5 = none := by rw [ho.objs]; exact h5
      have hle : st.le ((S'.ins b4 (.cells [.sl (acc.map Seg.a) tk])).ins b5 (.cells [.int .i64 l.m, .int .i64 l.c])) := (hSle.trans ho.under).trans (by (refine ⟨fun i o e => ?_, fun _ h => h⟩; revert e; simp only [St.ins, add_objs, kill_objs]; (repeat' split); all_goals (first | exact id | (intros; contradiction) | (intros; subst_vars; contradiction) | (intros; simp_all; done) | (intros; subst_vars; simp_all; done))))
      have hfin : acc = foldF xs := by rw [← HK.out, List.drop_of_length_le (by omega)]; rfl
      have HN := Hid.mk hfin
      clear hfin
      (repeat' (first | (simp (config := { maxDischargeDepth := 16 }) only [*, vX, Int.reduceLE, Int.reduceLT, Int.reduceGE, Int.reduceGT, Int.reduceBEq, Int.reduceBNe, Int.reduceAdd, Int.reduceSub, Int.reduceMul, Int.reduceNeg, ↓vD, vU, VE.ev, VE.evs, retvs, tupOf, grab, vfill, vbsl, eqCells, eqCell, veqs, veqs1, vmnx, AV.isCell, AV.isUndef, Nat.reduceEqDiff, Nat.reduceAdd, Nat.reduceSub, Nat.reduceLeDiff, Nat.reduceLT, reduceIte, reduceCtorEq, Nat.reduceBEq]) | (simp (disch := first | assumption | omega | exact Seg.len _ | exact Vec.len _ | exact Leg.len _ | exact num_len _ | exact rowA_len _ | exact rowA_len | exact rowT_len _ | exact rowT_len | exact Seg.len | exact Vec.len | exact Leg.len | exact num_len | exact AV.slen _ _ | rfl) only [vP]) | (with_reducible (first | refine gsnd (fun _ => ?_) (fun _ => ?_) | refine csnd (fun _ => ?_) (fun _ => ?_) | refine gsd (fun _ => ?_) (fun _ => ?_) | refine csd (fun _ => ?_) (fun _ => ?_) | refine gsn (fun _ => ?_) (fun _ => ?_) | refine csn (fun _ => ?_) (fun _ => ?_))) | (with_reducible refine gs (fun _ => ?_) (fun _ => ?_)) | (with_reducible refine cs_ (fun _ => ?_) (fun _ => ?_)) | (with_reducible refine objQ_i (fun _ _ => ?_); (repeat (with_reducible refine imp_i (fun _ => ?_)))) | ((try with_reducible refine appK_a ?_); first | (with_reducible refine appD_F (by refine ⟨?_, ?_, ?_, ?_⟩ <;> (first | assumption | omega | exact St.has_add (by assumption) | (simp only [ins_has]; exact St.has_add (by assumption)) | (simp only [ins_has, fresh_ins, kill_ins, add_ins] at *; exact St.has_add (by assumption)) | (simp only [*, ins_has, has_full, St.has_add]; done) | (simp [-List.map_take, -List.map_drop, or_imp, forall_and, Seg.a, Vec.a, Leg.a, num, okEl, cells_agg, cells_int, cells_sl, cells_bool, AV.isCell]; done) | (simp; omega))) (fun _ _ => ?_)) | (with_reducible refine appD_V (by refine ⟨?_, ?_, ?_, ?_, ?_⟩ <;> (first | assumption | omega | exact St.has_add (by assumption) | (simp only [ins_has]; exact St.has_add (by assumption)) | (simp only [ins_has, fresh_ins, kill_ins, add_ins] at *; exact St.has_add (by assumption)) | (simp only [*, ins_has, has_full, St.has_add]; done) | (simp [-List.map_take, -List.map_drop, or_imp, forall_and, Seg.a, Vec.a, Leg.a, num, okEl, cells_agg, cells_int, cells_sl, cells_bool, AV.isCell]; done) | (simp; omega))) (fun _ _ => ?_))) | (with_reducible refine freshQ_i (fun _ _ => ?_)) | (with_reducible refine nilQ_i (fun _ _ => ?_))))
      exact ⟨st, hle, tk, by rw [HN.out], rfl⟩
def ofF (xs : List Seg) : List Seg × Int := if xs.all inSeg then (foldF xs, 0) else ([], 10)
theorem Of_v (xs : List Seg) (hn : xs.length ≤ 100000000) (t : Tok) : VPure Try.prog 16 [.sl (xs.map Seg.a) t] (.tup [.sl ((ofF xs).1.map Seg.a) .no, num (ofF xs).2]) := by
  refine VPure.tokT (fun Z st => ?_)
  have hany := contains_pSeg (f := 54) (fs := []) (cs := []) xs (by omega) t (fun x => !inSeg x) (fun x => Of1_v x.t x.v.m x.v.c)
  have hf := folded_v xs hn t
  refine VCalls.of v_rle_Of_ok (Nat.le_of_ble_eq_true rfl) ?_
  simp only [v_rle_Of, ↓vD, vU, VE.ev, VE.evs, retvs, tupOf, grab, vfill, vbsl, eqCells, eqCell, veqs, veqs1, vmnx, AV.isCell, AV.isUndef, Nat.reduceEqDiff, Nat.reduceAdd, Nat.reduceSub, Nat.reduceLeDiff, Nat.reduceLT, reduceIte, reduceCtorEq, Nat.reduceBEq, k_app, k_slc1]
  (repeat' (first | (simp (config := { maxDischargeDepth := 16 }) only [*, vX, Int.reduceLE, Int.reduceLT, Int.reduceGE, Int.reduceGT, Int.reduceBEq, Int.reduceBNe, Int.reduceAdd, Int.reduceSub, Int.reduceMul, Int.reduceNeg, ↓vD, vU, VE.ev, VE.evs, retvs, tupOf, grab, vfill, vbsl, eqCells, eqCell, veqs, veqs1, vmnx, AV.isCell, AV.isUndef, Nat.reduceEqDiff, Nat.reduceAdd, Nat.reduceSub, Nat.reduceLeDiff, Nat.reduceLT, reduceIte, reduceCtorEq, Nat.reduceBEq]) | (simp (disch := first | assumption | omega | exact Seg.len _ | exact Vec.len _ | exact Leg.len _ | exact num_len _ | exact rowA_len _ | exact rowA_len | exact rowT_len _ | exact rowT_len | exact Seg.len | exact Vec.len | exact Leg.len | exact num_len | exact AV.slen _ _ | rfl) only [vP]) | (with_reducible (first | refine gsnd (fun _ => ?_) (fun _ => ?_) | refine csnd (fun _ => ?_) (fun _ => ?_) | refine gsd (fun _ => ?_) (fun _ => ?_) | refine csd (fun _ => ?_) (fun _ => ?_) | refine gsn (fun _ => ?_) (fun _ => ?_) | refine csn (fun _ => ?_) (fun _ => ?_))) | (with_reducible refine gs (fun _ => ?_) (fun _ => ?_)) | (with_reducible refine cs_ (fun _ => ?_) (fun _ => ?_)) | (with_reducible refine objQ_i (fun _ _ => ?_); (repeat (with_reducible refine imp_i (fun _ => ?_)))) | ((try with_reducible refine appK_a ?_); first | (with_reducible refine appD_F (by refine ⟨?_, ?_, ?_, ?_⟩ <;> (first | assumption | omega | exact St.has_add (by assumption) | (simp only [ins_has]; exact St.has_add (by assumption)) | (simp only [ins_has, fresh_ins, kill_ins, add_ins] at *; exact St.has_add (by assumption)) | (simp only [*, ins_has, has_full, St.has_add]; done) | (simp [-List.map_take, -List.map_drop, or_imp, forall_and, Seg.a, Vec.a, Leg.a, num, okEl, cells_agg, cells_int, cells_sl, cells_bool, AV.isCell]; done) | (simp; omega))) (fun _ _ => ?_)) | (with_reducible refine appD_V (by refine ⟨?_, ?_, ?_, ?_, ?_⟩ <;> (first | assumption | omega | exact St.has_add (by assumption) | (simp only [ins_has]; exact St.has_add (by assumption)) | (simp only [ins_has, fresh_ins, kill_ins, add_ins] at *; exact St.has_add (by assumption)) | (simp only [*, ins_has, has_full, St.has_add]; done) | (simp [-List.map_take, -List.map_drop, or_imp, forall_and, Seg.a, Vec.a, Leg.a, num, okEl, cells_agg, cells_int, cells_sl, cells_bool, AV.isCell]; done) | (simp; omega))) (fun _ _ => ?_))) | (with_reducible refine freshQ_i (fun _ _ => ?_)) | (with_reducible refine nilQ_i (fun _ _ => ?_)) | (with_reducible first | refine callH_use (hany) ?_ | refine pureQ_use (hany) ?_) | (with_reducible first | refine callH_use (hf) ?_ | refine pureQ_use (hf) ?_)))
  · rename_i h
    have ha : xs.all inSeg = true := by
      rw [List.all_eq_true]; intro x hx
      have := List.any_eq_false.1 h x hx
      simpa using this
    exact ⟨st, St.le.refl _, .no, by unfold ofF; rw [if_pos ha]; rfl, rfl⟩
  · rename_i h
    have ha : ¬ xs.all inSeg = true := by
      rw [List.all_eq_true]; intro h2
      obtain ⟨x, hx, h3⟩ := List.any_eq_true.1 h
      rw [h2 x hx] at h3; cases h3
    exact ⟨st, St.le.refl _, .full, by unfold ofF; rw [if_neg ha]; rfl, rfl⟩
def boxF1 (a b : Int) (v : Vec) : List Seg × Int := if a > b then ([], 2) else ofF [⟨a, v⟩, ⟨b, v0⟩]
theorem Box_v (a b m c : Int) : VPure Try.prog 19 [.int .i64 a, .int .i64 b, .agg [.int .i64 m, .int .i64 c]] (.tup [.sl ((boxF1 a b ⟨m, c⟩).1.map Seg.a) .no, num (boxF1 a b ⟨m, c⟩).2]) := by
  refine VPure.tokT (fun Z st => ?_)
  have hof := Of_v [⟨a, ⟨m, c⟩⟩, ⟨b, v0⟩] (by simp) .full
  simp only [List.map_cons, List.map_nil, Seg.a, v0] at hof
  refine VCalls.of v_rle_Box_ok (Nat.le_of_ble_eq_true rfl) ?_
  simp only [v_rle_Box, ↓vD, vU, VE.ev, VE.evs, retvs, tupOf, grab, vfill, vbsl, eqCells, eqCell, veqs, veqs1, vmnx, AV.isCell, AV.isUndef, Nat.reduceEqDiff, Nat.reduceAdd, Nat.reduceSub, Nat.reduceLeDiff, Nat.reduceLT, reduceIte, reduceCtorEq, Nat.reduceBEq, k_app, k_slc1]
  (repeat' (first | (simp (config := { maxDischargeDepth := 16 }) only [*, vX, Int.reduceLE, Int.reduceLT, Int.reduceGE, Int.reduceGT, Int.reduceBEq, Int.reduceBNe, Int.reduceAdd, Int.reduceSub, Int.reduceMul, Int.reduceNeg, ↓vD, vU, VE.ev, VE.evs, retvs, tupOf, grab, vfill, vbsl, eqCells, eqCell, veqs, veqs1, vmnx, AV.isCell, AV.isUndef, Nat.reduceEqDiff, Nat.reduceAdd, Nat.reduceSub, Nat.reduceLeDiff, Nat.reduceLT, reduceIte, reduceCtorEq, Nat.reduceBEq]) | (simp (disch := first | assumption | omega | exact Seg.len _ | exact Vec.len _ | exact Leg.len _ | exact num_len _ | exact rowA_len _ | exact rowA_len | exact rowT_len _ | exact rowT_len | exact Seg.len | exact Vec.len | exact Leg.len | exact num_len | exact AV.slen _ _ | rfl) only [vP]) | (with_reducible (first | refine gsnd (fun _ => ?_) (fun _ => ?_) | refine csnd (fun _ => ?_) (fun _ => ?_) | refine gsd (fun _ => ?_) (fun _ => ?_) | refine csd (fun _ => ?_) (fun _ => ?_) | refine gsn (fun _ => ?_) (fun _ => ?_) | refine csn (fun _ => ?_) (fun _ => ?_))) | (with_reducible refine gs (fun _ => ?_) (fun _ => ?_)) | (with_reducible refine cs_ (fun _ => ?_) (fun _ => ?_)) | (with_reducible refine objQ_i (fun _ _ => ?_); (repeat (with_reducible refine imp_i (fun _ => ?_)))) | ((try with_reducible refine appK_a ?_); first | (with_reducible refine appD_F (by refine ⟨?_, ?_, ?_, ?_⟩ <;> (first | assumption | omega | exact St.has_add (by assumption) | (simp only [ins_has]; exact St.has_add (by assumption)) | (simp only [ins_has, fresh_ins, kill_ins, add_ins] at *; exact St.has_add (by assumption)) | (simp only [*, ins_has, has_full, St.has_add]; done) | (simp [-List.map_take, -List.map_drop, or_imp, forall_and, Seg.a, Vec.a, Leg.a, num, okEl, cells_agg, cells_int, cells_sl, cells_bool, AV.isCell]; done) | (simp; omega))) (fun _ _ => ?_)) | (with_reducible refine appD_V (by refine ⟨?_, ?_, ?_, ?_, ?_⟩ <;> (first | assumption | omega | exact St.has_add (by assumption) | (simp only [ins_has]; exact St.has_add (by assumption)) | (simp only [ins_has, fresh_ins, kill_ins, add_ins] at *; exact St.has_add (by assumption)) | (simp only [*, ins_has, has_full, St.has_add]; done) | (simp [-List.map_take, -List.map_drop, or_imp, forall_and, Seg.a, Vec.a, Leg.a, num, okEl, cells_agg, cells_int, cells_sl, cells_bool, AV.isCell]; done) | (simp; omega))) (fun _ _ => ?_))) | (with_reducible refine freshQ_i (fun _ _ => ?_)) | (with_reducible refine nilQ_i (fun _ _ => ?_)) | (with_reducible first | refine callH_use (hof) ?_ | refine pureQ_use (hof) ?_)))
  · rename_i h
    exact ⟨st, by (refine ⟨fun i o e => ?_, fun _ h => h⟩; revert e; simp only [St.ins, add_objs, kill_objs]; (repeat' split); all_goals (first | exact id | (intros; contradiction) | (intros; subst_vars; contradiction) | (intros; simp_all; done) | (intros; subst_vars; simp_all; done))), .full, by unfold boxF1; rw [if_pos h]; rfl, rfl⟩
  · rename_i h
    exact ⟨st, by (refine ⟨fun i o e => ?_, fun _ h => h⟩; revert e; simp only [St.ins, add_objs, kill_objs]; (repeat' split); all_goals (first | exact id | (intros; contradiction) | (intros; subst_vars; contradiction) | (intros; simp_all; done) | (intros; subst_vars; simp_all; done))), .no, by unfold boxF1; rw [if_neg h]; rfl, rfl⟩
end Go.Proofs.Ytddbnncimggogaa.V
end
section
set_option linter.unusedSimpArgs false
set_option linter.unusedVariables false
/- (calc.joint).made. -/
namespace Go.Proofs.Ytddbnncimggogaa.V
open Go Go.Proofs
set_option maxRecDepth 100000
set_option maxHeartbeats 4000000
theorem both_c (f g : List Seg) (t t' : Tok) (st : St) {Z : Im} : VCalls Try.prog Z 77 [.sl (f.map Seg.a) t, .sl (g.map Seg.a) t'] st
    (fun v s => ∃ b2 b3, st.objs b2 = none ∧ st.objs b3 = none ∧ ¬ b2 = b3 ∧ v = .clo 121 [] [.ptr b2 0, .ptr b3 0] ∧ s = (st.ins b2 (.cells [.sl (f.map Seg.a) t])).ins b3 (.cells [.sl (g.map Seg.a) t'])) := by
  refine VCalls.of v_calc_both_ok (Nat.le_of_ble_eq_true rfl) ?_
  simp only [v_calc_both, ↓vD, vU, VE.ev, VE.evs, retvs, tupOf, grab, vfill, vbsl, eqCells, eqCell, veqs, veqs1, vmnx, AV.isCell, AV.isUndef, Nat.reduceEqDiff, Nat.reduceAdd, Nat.reduceSub, Nat.reduceLeDiff, Nat.reduceLT, reduceIte, reduceCtorEq, Nat.reduceBEq, k_app, k_slc1]
  (repeat' (first | (simp (config := { maxDischargeDepth := 16 }) only [*, vX, Int.reduceLE, Int.reduceLT, Int.reduceGE, Int.reduceGT, Int.reduceBEq, Int.reduceBNe, Int.reduceAdd, Int.reduceSub, Int.reduceMul, Int.reduceNeg, ↓vD, vU, VE.ev, VE.evs, retvs, tupOf, grab, vfill, vbsl, eqCells, eqCell, veqs, veqs1, vmnx, AV.isCell, AV.isUndef, Nat.reduceEqDiff, Nat.reduceAdd, Nat.reduceSub, Nat.reduceLeDiff, Nat.reduceLT, reduceIte, reduceCtorEq, Nat.reduceBEq]) | (simp (disch := first | assumption | omega | exact Seg.len _ | exact Vec.len _ | exact Leg.len _ | exact num_len _ | exact rowA_len _ | exact rowA_len | exact rowT_len _ | exact rowT_len | exact Seg.len | exact Vec.len | exact Leg.len | exact num_len | exact AV.slen _ _ | rfl) only [vP]) | (with_reducible (first | refine gsnd (fun _ => ?_) (fun _ => ?_) | refine csnd (fun _ => ?_) (fun _ => ?_) | refine gsd (fun _ => ?_) (fun _ => ?_) | refine csd (fun _ => ?_) (fun _ => ?_) | refine gsn (fun _ => ?_) (fun _ => ?_) | refine csn (fun _ => ?_) (fun _ => ?_))) | (with_reducible refine gs (fun _ => ?_) (fun _ => ?_)) | (with_reducible refine cs_ (fun _ => ?_) (fun _ => ?_)) | (with_reducible refine objQ_i (fun _ _ => ?_); (repeat (with_reducible refine imp_i (fun _ => ?_)))) | ((try with_reducible refine appK_a ?_); first | (with_reducible refine appD_F (by refine ⟨?_, ?_, ?_, ?_⟩ <;> (first | assumption | omega | exact St.has_add (by assumption) | (simp only [ins_has]; exact St.has_add (by assumption)) | (simp only [ins_has, fresh_ins, kill_ins, add_ins] at *; exact St.has_add (by assumption)) | (simp only [*, ins_has, has_full, St.has_add]; done) | (simp [-List.map_take, -List.map_drop, or_imp, forall_and, Seg.a, Vec.a, Leg.a, num, okEl, cells_agg, cells_int, cells_sl, cells_bool, AV.isCell]; done) | (simp; omega))) (fun _ _ => ?_)) | (with_reducible refine appD_V (by refine ⟨?_, ?_, ?_, ?_, ?_⟩ <;> (first | assumption | omega | exact St.has_add (by assumption) | (simp only [ins_has]; exact St.has_add (by assumption)) | (simp only [ins_has, fresh_ins, kill_ins, add_ins] at *; exact St.has_add (by assumption)) | (simp only [*, ins_has, has_full, St.has_add]; done) | (simp [-List.map_take, -List.map_drop, or_imp, forall_and, Seg.a, Vec.a, Leg.a, num, okEl, cells_agg, cells_int, cells_sl, cells_bool, AV.isCell]; done) | (simp; omega))) (fun _ _ => ?_))) | (with_reducible refine freshQ_i (fun _ _ => ?_)) | (with_reducible refine nilQ_i (fun _ _ => ?_))))
  rename_i b2 h2 b3 h3 n1 n2
  exact ⟨_, St.le.refl _, b2, b3, h2, h3, n2, rfl, rfl⟩
def rawJ (jf : Vec → Vec → Vec × Int) : List (Int × Vec × Vec) → List Seg → List Seg × Int
  | [], acc => (acc, 0)
  | it :: r, acc => if (jf it.2.1 it.2.2).2 = 0 then rawJ jf r (acc ++ [⟨it.1, (jf it.2.1 it.2.2).1⟩]) else ([], (jf it.2.1 it.2.2).2)
def madeF (jf : Vec → Vec → Vec × Int) (f g : List Seg) : List Seg × Int := if mayF f && mayF g then (if (rawJ jf (bothF f g v0 v0) []).2 = 0 then ofF (rawJ jf (bothF f g v0 v0) []).1 else ([], (rawJ jf (bothF f g v0 v0) []).2)) else ([], 5)
theorem rawJ_drop (jf : Vec → Vec → Vec × Int) (L : List (Int × Vec × Vec)) (k : Nat) (hk : k < L.length) (acc : List Seg) : rawJ jf (L.drop k) acc = if (jf L[k].2.1 L[k].2.2).2 = 0 then rawJ jf (L.drop (k + 1)) (acc ++ [⟨L[k].1, (jf L[k].2.1 L[k].2.2).1⟩]) else ([], (jf L[k].2.1 L[k].2.2).2) := by
  rw [List.drop_eq_getElem_cons hk]; rfl
theorem bothF_len : ∀ (f g : List Seg) (a b : Vec), (bothF f g a b).length ≤ f.length + g.length
  | [], [], _, _ => by rw [bothF]; simp
  | x :: f, [], _, b => by rw [bothF]; have := bothF_len f [] x.v b; simp at *; omega
  | [], y :: g, a, _ => by rw [bothF]; have := bothF_len [] g a y.v; simp at *; omega
  | x :: f, y :: g, a, b => by
    rw [bothF]
    have h1 := bothF_len f (y :: g) x.v b
    have h2 := bothF_len (x :: f) g a y.v
    have h3 := bothF_len f g x.v y.v
    simp at h1 h2 h3 ⊢
    split
    · simp; omega
    · split <;> simp <;> omega
termination_by f g => f.length + g.length
def MS (b3 b6 b7 b8 D l : Nat) (jv o6 o7 o8 : AV) (ol : AObj) (W : St) : St := (((((W.ins b3 (.cells [jv])).ins b6 (.cells [o6])).ins b7 (.cells [o7])).ins b8 (.cells [o8])).ins D dobj).ins l ol
theorem MS_none {b3 b6 b7 b8 D l : Nat} {jv o6 o7 o8 p6 p7 p8 : AV} {ol pl : AObj} {W V : St} (hW : W.objs = V.objs) {i : Nat} (h : (MS b3 b6 b7 b8 D l jv o6 o7 o8 ol V).objs i = none) : (MS b3 b6 b7 b8 D l jv p6 p7 p8 pl W).objs i = none := by
  simp only [MS, ins_objs, ite_some_none] at h ⊢
  rw [hW]; exact h
theorem argsFr2_t (p q : Nat) (a b : AV) (fr : Fr) (i : Nat) : (argsFr [p, q] [a, b] fr).t i = if i = q then b else if i = p then a else fr.t i := rfl
theorem argsFr2_d (p q : Nat) (a b : AV) (fr : Fr) : (argsFr [p, q] [a, b] fr).d = [] := rfl
theorem made_c (jv : AV) (jf : Vec → Vec → Vec × Int) (hj : Joint jv jf) (f g : List Seg) (hf : f.length ≤ 1000000) (hg : g.length ≤ 1000000) (t t' : Tok) : VPure Try.prog 65 [.agg [jv], .sl (f.map Seg.a) t, .sl (g.map Seg.a) t'] (.tup [.sl ((madeF jf f g).1.map Seg.a) .no, num (madeF jf f g).2]) := by
  refine VPure.tokT (fun Z st => ?_)
  obtain ⟨jg, fs, cs, rfl, hjf⟩ := hj
  have hmay := may2_c f g hf hg .full t t'
  have hbl := bothF_len f g v0 v0
  obtain ⟨L, hL⟩ : ∃ L, bothF f g v0 v0 = L := ⟨_, rfl⟩
  have HM : Hid (madeF jf f g = if mayF f && mayF g then (if (rawJ jf L []).2 = 0 then ofF (rawJ jf L []).1 else ([], (rawJ jf L []).2)) else ([], 5)) := ⟨by unfold madeF; rw [hL]⟩
  have HJ := Hid.mk hjf
  have HL := Hid.mk (And.intro hL hbl)
  clear hL hbl hjf
  refine VCalls.of v_calc_joint_made_ok (Nat.le_of_ble_eq_true rfl) ?_
  simp only [v_calc_joint_made, ↓vD, vU, VE.ev, VE.evs, retvs, tupOf, grab, vfill, vbsl, eqCells, eqCell, veqs, veqs1, vmnx, AV.isCell, AV.isUndef, Nat.reduceEqDiff, Nat.reduceAdd, Nat.reduceSub, Nat.reduceLeDiff, Nat.reduceLT, reduceIte, reduceCtorEq, Nat.reduceBEq, k_app, k_slc1]
  (repeat' (first | (simp (config := { maxDischargeDepth := 16 }) only [*, vX, Int.reduceLE, Int.reduceLT, Int.reduceGE, Int.reduceGT, Int.reduceBEq, Int.reduceBNe, Int.reduceAdd, Int.reduceSub, Int.reduceMul, Int.reduceNeg, ↓vD, vU, VE.ev, VE.evs, retvs, tupOf, grab, vfill, vbsl, eqCells, eqCell, veqs, veqs1, vmnx, AV.isCell, AV.isUndef, Nat.reduceEqDiff, Nat.reduceAdd, Nat.reduceSub, Nat.reduceLeDiff, Nat.reduceLT, reduceIte, reduceCtorEq, Nat.reduceBEq]) | (simp (disch := first | assumption | omega | exact Seg.len _ | exact Vec.len _ | exact Leg.len _ | exact num_len _ | exact rowA_len _ | exact rowA_len | exact rowT_len _ | exact rowT_len | exact Seg.len | exact Vec.len | exact Leg.len | exact num_len | exact AV.slen _ _ | rfl) only [vP]) | (with_reducible (first | refine gsnd (fun _ => ?_) (fun _ => ?_) | refine csnd (fun _ => ?_) (fun _ => ?_) | refine gsd (fun _ => ?_) (fun _ => ?_) | refine csd (fun _ => ?_) (fun _ => ?_) | refine gsn (fun _ => ?_) (fun _ => ?_) | refine csn (fun _ => ?_) (fun _ => ?_))) | (with_reducible refine gs (fun _ => ?_) (fun _ => ?_)) | (with_reducible refine cs_ (fun _ => ?_) (fun _ => ?_)) | (with_reducible refine objQ_i (fun _ _ => ?_); (repeat (with_reducible refine imp_i (fun _ => ?_)))) | ((try with_reducible refine appK_a ?_); first | (with_reducible refine appD_F (by refine ⟨?_, ?_, ?_, ?_⟩ <;> (first | assumption | omega | exact St.has_add (by assumption) | (simp only [ins_has]; exact St.has_add (by assumption)) | (simp only [ins_has, fresh_ins, kill_ins, add_ins] at *; exact St.has_add (by assumption)) | (simp only [*, ins_has, has_full, St.has_add]; done) | (simp [-List.map_take, -List.map_drop, or_imp, forall_and, Seg.a, Vec.a, Leg.a, num, okEl, cells_agg, cells_int, cells_sl, cells_bool, AV.isCell]; done) | (simp; omega))) (fun _ _ => ?_)) | (with_reducible refine appD_V (by refine ⟨?_, ?_, ?_, ?_, ?_⟩ <;> (first | assumption | omega | exact St.has_add (by assumption) | (simp only [ins_has]; exact St.has_add (by assumption)) | (simp only [ins_has, fresh_ins, kill_ins, add_ins] at *; exact St.has_add (by assumption)) | (simp only [*, ins_has, has_full, St.has_add]; done) | (simp [-List.map_take, -List.map_drop, or_imp, forall_and, Seg.a, Vec.a, Leg.a, num, okEl, cells_agg, cells_int, cells_sl, cells_bool, AV.isCell]; done) | (simp; omega))) (fun _ _ => ?_))) | (with_reducible refine freshQ_i (fun _ _ => ?_)) | (with_reducible refine nilQ_i (fun _ _ => ?_)) | (with_reducible first | refine callH_use (hmay) ?_ | refine pureQ_use (hmay) ?_)))
  · rename_i b3 h3 b6 h6 n1 n2 b7 h7 n3 n4 n5 n6 hm
    exact ⟨st, by (refine ⟨fun i o e => ?_, fun _ h => h⟩; revert e; simp only [St.ins, add_objs, kill_objs]; (repeat' split); all_goals (first | exact id | (intros; contradiction) | (intros; subst_vars; contradiction) | (intros; simp_all; done) | (intros; subst_vars; simp_all; done))), .full, by rw [HM.out, hm]; rfl, rfl⟩
  rename_i b3 h3 b6 h6 n63 n36 b7 h7 n73 n37 n76 n67 hm b8 h8 n83 n38 n86 n68 n87 n78
  have HN : Hid (madeF jf f g = if (rawJ jf L []).2 = 0 then ofF (rawJ jf L []).1 else ([], (rawJ jf L []).2)) := ⟨by rw [HM.out, if_pos hm]⟩
  clear HM hmay
  refine callH_then (both_c f g t t' _) ?_
  rintro _ _ ⟨bf, bg, hbf, hbg, nfg, rfl, rfl⟩
  have ngf : ¬ bg = bf := fun e => nfg e.symm
  simp only [ins_objs, ite_some_none] at hbf hbg
  simp only [↓vD, vU, VE.ev, VE.evs, retvs, tupOf, grab, vfill, vbsl, eqCells, eqCell, veqs, veqs1, vmnx, AV.isCell, AV.isUndef, Nat.reduceEqDiff, Nat.reduceAdd, Nat.reduceSub, Nat.reduceLeDiff, Nat.reduceLT, reduceIte, reduceCtorEq, Nat.reduceBEq, k_app, k_slc1]
  refine rng_of (gf := 121) (fs := []) (cs := [.ptr bf 0, .ptr bg 0]) ?_ ?_
  · simp only [↓vD, vU, VE.ev, VE.evs, retvs, tupOf, grab, vfill, vbsl, eqCells, eqCell, veqs, veqs1, vmnx, AV.isCell, AV.isUndef, Nat.reduceEqDiff, Nat.reduceAdd, Nat.reduceSub, Nat.reduceLeDiff, Nat.reduceLT, reduceIte, reduceCtorEq, Nat.reduceBEq, k_app, k_slc1]
  intro Y l D r hzy hl hD nlD hyY
  simp only [ins_objs, ite_some_none] at hl hD
  obtain ⟨ngb8, nb8g, ngb7, nb7g, ngb6, nb6g, ngb3, nb3g, hgn⟩ := hbg
  obtain ⟨nfb8, nb8f, nfb7, nb7f, nfb6, nb6f, nfb3, nb3f, hfn⟩ := hbf
  obtain ⟨nlg, ngl, nlf, nfl, nl8, n8l, nl7, n7l, nl6, n6l, nl3, n3l, hln⟩ := hl
  obtain ⟨nDg, ngD, nDf, nfD, nD8, n8D, nD7, n7D, nD6, n6D, nD3, n3D, hDn⟩ := hD
  have nDl : ¬ D = l := fun e => nlD e.symm
  have hmain := both_it (Y := Y) (l := l) f g t t' bf bg nfg (MS b3 b6 b7 b8 D l (.clo jg fs cs) (.sl [] .full) (.int .i64 0) (.sl [] .full) (lobj r .ready none) st)
    (by simp only [MS, ins_objs, ite_some_none, *, not_false_eq_true, and_self, if_false]) (by simp only [MS, ins_objs, ite_some_none, *, not_false_eq_true, and_self, if_false])
    (fun k S => ∃ acc tk W, S = MS b3 b6 b7 b8 D l (.clo jg fs cs) (.sl [] .full) (.int .i64 0) (.sl (acc.map Seg.a) tk) (lobj r .ready none) W ∧ Ours 3 st W tk ∧ acc.length ≤ k ∧ Hid (rawJ jf (L.drop k) acc = rawJ jf L []))
    (fun S => ∃ o8 tk W e, S = MS b3 b6 b7 b8 D l (.clo jg fs cs) (.sl [] .full) (.int .i64 e) o8 (lobj r .done (some .ret)) W ∧ Ours 3 st W tk ∧ Hid (rawJ jf L [] = ([], e) ∧ e ≠ 0))
    (by rintro k S ⟨acc, tk, W, rfl, ho, _⟩ i hi; exact MS_none ho.objs hi) (by rintro S ⟨o8, tk, W, e, rfl, ho, _⟩ i hi; exact MS_none ho.objs hi)
    ⟨[], .full, st, rfl, Ours.full 3 st, by simp, ⟨rfl⟩⟩ ?_
  rotate_left
  · rw [HL.out.1]
    rintro k hk S b4 o2 o3 o4 ⟨acc, tk, W, rfl, ho, hal, HK⟩ hSf hSg hS4 nf4 ng4
    have n4f : ¬ b4 = bf := fun e => nf4 e.symm
    have n4g : ¬ b4 = bg := fun e => ng4 e.symm
    simp only [MS, ins_objs, ite_some_none] at hS4
    obtain ⟨n4l, nl4, n4D, nD4, n48, n84, n47, n74, n46, n64, n43, n34, hW4⟩ := hS4
    have hWf : W.objs bf = none := by rw [ho.objs]; exact hfn
    have hWg : W.objs bg = none := by rw [ho.objs]; exact hgn
    have hstep := rawJ_drop jf L k hk acc
    obtain ⟨it, hit⟩ : ∃ it, L[k] = it := ⟨_, rfl⟩
    obtain ⟨tt, a, c⟩ := it
    rw [hit] at hstep ⊢
    have hj := HJ.out a c
    obtain ⟨q, hq⟩ : ∃ q, jf a c = q := ⟨_, rfl⟩
    simp only [hq] at hstep hj
    have HS := Hid.mk hstep
    have hts := ho.has
    have hal2 : acc.length ≤ 2000000 := by have := HL.out.2; rw [HL.out.1] at this; omega
    clear hstep hit hq
    refine hyY _ _ _ rfl (by simp only [XS, MS, ins_objs, *, if_true, if_false]) ?_
    rw [XS, MS]
    clear hyY
    (repeat' (first | (simp (config := { maxDischargeDepth := 16 }) only [*, argsFr2_t, argsFr2_d, nowA, qr_normal, qr_ret, qr_exit, vX, Int.reduceLE, Int.reduceLT, Int.reduceGE, Int.reduceGT, Int.reduceBEq, Int.reduceBNe, Int.reduceAdd, Int.reduceSub, Int.reduceMul, Int.reduceNeg, ↓vD, vU, VE.ev, VE.evs, retvs, tupOf, grab, vfill, vbsl, eqCells, eqCell, veqs, veqs1, vmnx, AV.isCell, AV.isUndef, Nat.reduceEqDiff, Nat.reduceAdd, Nat.reduceSub, Nat.reduceLeDiff, Nat.reduceLT, reduceIte, reduceCtorEq, Nat.reduceBEq]) | (simp (disch := first | assumption | omega | exact Seg.len _ | exact Vec.len _ | exact Leg.len _ | exact num_len _ | exact rowA_len _ | exact rowA_len | exact rowT_len _ | exact rowT_len | exact Seg.len | exact Vec.len | exact Leg.len | exact num_len | exact AV.slen _ _ | rfl) only [argsFr2_t, argsFr2_d, nowA, qr_normal, qr_ret, qr_exit, vP]) | (with_reducible (first | refine gsnd (fun _ => ?_) (fun _ => ?_) | refine csnd (fun _ => ?_) (fun _ => ?_) | refine gsd (fun _ => ?_) (fun _ => ?_) | refine csd (fun _ => ?_) (fun _ => ?_) | refine gsn (fun _ => ?_) (fun _ => ?_) | refine csn (fun _ => ?_) (fun _ => ?_))) | (with_reducible refine gs (fun _ => ?_) (fun _ => ?_)) | (with_reducible refine cs_ (fun _ => ?_) (fun _ => ?_)) | (with_reducible refine objQ_i (fun _ _ => ?_); (repeat (with_reducible refine imp_i (fun _ => ?_)))) | ((try with_reducible refine appK_a ?_); first | (with_reducible refine appD_F (by refine ⟨?_, ?_, ?_, ?_⟩ <;> (first | assumption | omega | exact St.has_add (by assumption) | (simp only [ins_has]; exact St.has_add (by assumption)) | (simp only [ins_has, fresh_ins, kill_ins, add_ins] at *; exact St.has_add (by assumption)) | (simp only [*, ins_has, has_full, St.has_add]; done) | (simp [-List.map_take, -List.map_drop, or_imp, forall_and, Seg.a, Vec.a, Leg.a, num, okEl, cells_agg, cells_int, cells_sl, cells_bool, AV.isCell]; done) | (simp; omega))) (fun _ _ => ?_)) | (with_reducible refine appD_V (by refine ⟨?_, ?_, ?_, ?_, ?_⟩ <;> (first | assumption | omega | exact St.has_add (by assumption) | (simp only [ins_has]; exact St.has_add (by assumption)) | (simp only [ins_has, fresh_ins, kill_ins, add_ins] at *; exact St.has_add (by assumption)) | (simp only [*, ins_has, has_full, St.has_add]; done) | (simp [-List.map_take, -List.map_drop, or_imp, forall_and, Seg.a, Vec.a, Leg.a, num, okEl, cells_agg, cells_int, cells_sl, cells_bool, AV.isCell]; done) | (simp; omega))) (fun _ _ => ?_))) | (with_reducible refine freshQ_i (fun _ _ => ?_)) | (with_reducible refine nilQ_i (fun _ _ => ?_)) | (with_reducible first | refine callH_use (hj) ?_ | refine pureQ_use (hj) ?_)))
    · have hc : (q.2 != 0) = true := by assumption
      have hc' : ¬ q.2 = 0 := by simpa using hc
      refine .inr ⟨rfl, MS b3 b6 b7 b8 D l (.clo jg fs cs) (.sl [] .full) (.int .i64 q.2) (.sl (acc.map Seg.a) tk) (lobj r .done (some .ret)) W, ⟨_, tk, W, q.2, rfl, ho, ⟨by rw [← HK.out, HS.out, if_neg hc'], hc'⟩⟩, ?_⟩
      rw [XS, MS]
      (refine leX.start ?_ rfl; (repeat (refine leX.in_ (by simp only [*, ins_objs, if_true, if_false]; first | done | rfl) ?_)); (repeat (first | refine leX.new (by first | assumption | (rw [hob]; assumption)) ?_ | refine leX.old (by (simp only [List.mem_cons, true_or, or_true, eq_self]; done)) ?_)); exact leX.refl _ _)
    · rename_i t1 hf1
      have hc : (q.2 != 0) = false := by assumption
      have hc' : q.2 = 0 := by simpa using hc
      have ho2 := ho.next (by simpa only [kill_ins, fresh_ins] using hf1)
      have hob : ((W.kill tk).add t1).objs = W.objs := by rw [add_objs, kill_objs]
      refine .inl ⟨rfl, MS b3 b6 b7 b8 D l (.clo jg fs cs) (.sl [] .full) (.int .i64 0) (.sl ((acc ++ [(⟨tt, q.1⟩ : Seg)]).map Seg.a) t1) (lobj r .ready none) ((W.kill tk).add t1), ⟨_, t1, _, rfl, ho2, by simp; omega, ⟨by rw [← HK.out, HS.out, if_pos hc']⟩⟩, ?_⟩
      rw [XS, MS]
      simp only [List.map_append, List.map_cons, List.map_nil, Seg.a]
      clear ho2 hf1
      (refine leX.start ?_ rfl; (repeat (refine leX.in_ (by simp only [*, ins_objs, if_true, if_false]; first | done | rfl) ?_)); (repeat (first | refine leX.new (by first | assumption | (rw [hob]; assumption)) ?_ | refine leX.old (by (simp only [List.mem_cons, true_or, or_true, eq_self]; done)) ?_)); exact leX.refl _ _)
  · refine VCalls.st_eq (VCalls.wk hmain ?_) (by rw [MS]; exact (by simp only [St.ins]; congr 1; funext i; (repeat' split) <;> (first | rfl | contradiction | (subst_vars; contradiction) | (subst_vars; rfl))))
    rintro v s ⟨rfl, S', hIE, hle⟩
    refine ⟨_, S', Wk.le hle _, ?_⟩
    clear hmain hle
    rcases hIE with ⟨acc, tk, W, rfl, ho, hal, HK⟩ | ⟨o8, tk, W, e, rfl, ho, HE⟩
    · refine ⟨.ready, none, by simp, by simp [MS, St.ins], ?_⟩
      rw [jq_none, MS]
      rw [HL.out.1, List.drop_length] at HK
      have hal2 : acc.length ≤ 2000000 := by have := HL.out.2; omega
      have hof := Of_v acc (by omega) tk
      have hob := ho.objs
      have hun := ho.under
      clear hyY
      (repeat' (first | (simp (config := { maxDischargeDepth := 16 }) only [*, num, vX, Int.reduceLE, Int.reduceLT, Int.reduceGE, Int.reduceGT, Int.reduceBEq, Int.reduceBNe, Int.reduceAdd, Int.reduceSub, Int.reduceMul, Int.reduceNeg, ↓vD, vU, VE.ev, VE.evs, retvs, tupOf, grab, vfill, vbsl, eqCells, eqCell, veqs, veqs1, vmnx, AV.isCell, AV.isUndef, Nat.reduceEqDiff, Nat.reduceAdd, Nat.reduceSub, Nat.reduceLeDiff, Nat.reduceLT, reduceIte, reduceCtorEq, Nat.reduceBEq]) | (simp (disch := first | assumption | omega | exact Seg.len _ | exact Vec.len _ | exact Leg.len _ | exact num_len _ | exact rowA_len _ | exact rowA_len | exact rowT_len _ | exact rowT_len | exact Seg.len | exact Vec.len | exact Leg.len | exact num_len | exact AV.slen _ _ | rfl) only [num, vP]) | (with_reducible (first | refine gsnd (fun _ => ?_) (fun _ => ?_) | refine csnd (fun _ => ?_) (fun _ => ?_) | refine gsd (fun _ => ?_) (fun _ => ?_) | refine csd (fun _ => ?_) (fun _ => ?_) | refine gsn (fun _ => ?_) (fun _ => ?_) | refine csn (fun _ => ?_) (fun _ => ?_))) | (with_reducible refine gs (fun _ => ?_) (fun _ => ?_)) | (with_reducible refine cs_ (fun _ => ?_) (fun _ => ?_)) | (with_reducible refine objQ_i (fun _ _ => ?_); (repeat (with_reducible refine imp_i (fun _ => ?_)))) | ((try with_reducible refine appK_a ?_); first | (with_reducible refine appD_F (by refine ⟨?_, ?_, ?_, ?_⟩ <;> (first | assumption | omega | exact St.has_add (by assumption) | (simp only [ins_has]; exact St.has_add (by assumption)) | (simp only [ins_has, fresh_ins, kill_ins, add_ins] at *; exact St.has_add (by assumption)) | (simp only [*, ins_has, has_full, St.has_add]; done) | (simp [-List.map_take, -List.map_drop, or_imp, forall_and, Seg.a, Vec.a, Leg.a, num, okEl, cells_agg, cells_int, cells_sl, cells_bool, AV.isCell]; done) | (simp; omega))) (fun _ _ => ?_)) | (with_reducible refine appD_V (by refine ⟨?_, ?_, ?_, ?_, ?_⟩ <;> (first | assumption | omega | exact St.has_add (by assumption) | (simp only [ins_has]; exact St.has_add (by assumption)) | (simp only [ins_has, fresh_ins, kill_ins, add_ins] at *; exact St.has_add (by assumption)) | (simp only [*, ins_has, has_full, St.has_add]; done) | (simp [-List.map_take, -List.map_drop, or_imp, forall_and, Seg.a, Vec.a, Leg.a, num, okEl, cells_agg, cells_int, cells_sl, cells_bool, AV.isCell]; done) | (simp; omega))) (fun _ _ => ?_))) | (with_reducible refine freshQ_i (fun _ _ => ?_)) | (with_reducible refine nilQ_i (fun _ _ => ?_)) | (with_reducible first | refine callH_use (hof) ?_ | refine pureQ_use (hof) ?_)))
      have hr : rawJ jf L [] = (acc, 0) := HK.out.symm
      have hm : madeF jf f g = ofF acc := by rw [HN.out, hr]; rfl
      refine ⟨_, st, rfl, ?_, by simp, ?_, .no, by rw [hm]; rfl, rfl⟩
      · intro D' hD'
        have : D' = D := by simpa using hD'
        subst this
        exact ⟨by simp only [*, ins_objs, if_true, if_false], hDn⟩
      · refine hun.trans ?_
        (refine leX.start ?_ rfl; (repeat (refine leX.in_ (by simp only [*, ins_objs, if_true, if_false]; first | done | rfl) ?_)); (repeat (first | refine leX.new (by first | assumption | (rw [hob]; assumption)) ?_ | refine leX.old (by (simp only [List.mem_cons, true_or, or_true, eq_self]; done)) ?_)); exact leX.refl _ _)
    · refine ⟨.done, some .ret, by simp, by simp [MS, St.ins], ?_⟩
      rw [jq_ret, MS]
      have hob := ho.objs
      have hun := ho.under
      clear hyY
      (repeat' (first | (simp (config := { maxDischargeDepth := 16 }) only [*, vX, Int.reduceLE, Int.reduceLT, Int.reduceGE, Int.reduceGT, Int.reduceBEq, Int.reduceBNe, Int.reduceAdd, Int.reduceSub, Int.reduceMul, Int.reduceNeg, ↓vD, vU, VE.ev, VE.evs, retvs, tupOf, grab, vfill, vbsl, eqCells, eqCell, veqs, veqs1, vmnx, AV.isCell, AV.isUndef, Nat.reduceEqDiff, Nat.reduceAdd, Nat.reduceSub, Nat.reduceLeDiff, Nat.reduceLT, reduceIte, reduceCtorEq, Nat.reduceBEq]) | (simp (disch := first | assumption | omega | exact Seg.len _ | exact Vec.len _ | exact Leg.len _ | exact num_len _ | exact rowA_len _ | exact rowA_len | exact rowT_len _ | exact rowT_len | exact Seg.len | exact Vec.len | exact Leg.len | exact num_len | exact AV.slen _ _ | rfl) only [vP]) | (with_reducible (first | refine gsnd (fun _ => ?_) (fun _ => ?_) | refine csnd (fun _ => ?_) (fun _ => ?_) | refine gsd (fun _ => ?_) (fun _ => ?_) | refine csd (fun _ => ?_) (fun _ => ?_) | refine gsn (fun _ => ?_) (fun _ => ?_) | refine csn (fun _ => ?_) (fun _ => ?_))) | (with_reducible refine gs (fun _ => ?_) (fun _ => ?_)) | (with_reducible refine cs_ (fun _ => ?_) (fun _ => ?_)) | (with_reducible refine objQ_i (fun _ _ => ?_); (repeat (with_reducible refine imp_i (fun _ => ?_)))) | ((try with_reducible refine appK_a ?_); first | (with_reducible refine appD_F (by refine ⟨?_, ?_, ?_, ?_⟩ <;> (first | assumption | omega | exact St.has_add (by assumption) | (simp only [ins_has]; exact St.has_add (by assumption)) | (simp only [ins_has, fresh_ins, kill_ins, add_ins] at *; exact St.has_add (by assumption)) | (simp only [*, ins_has, has_full, St.has_add]; done) | (simp [-List.map_take, -List.map_drop, or_imp, forall_and, Seg.a, Vec.a, Leg.a, num, okEl, cells_agg, cells_int, cells_sl, cells_bool, AV.isCell]; done) | (simp; omega))) (fun _ _ => ?_)) | (with_reducible refine appD_V (by refine ⟨?_, ?_, ?_, ?_, ?_⟩ <;> (first | assumption | omega | exact St.has_add (by assumption) | (simp only [ins_has]; exact St.has_add (by assumption)) | (simp only [ins_has, fresh_ins, kill_ins, add_ins] at *; exact St.has_add (by assumption)) | (simp only [*, ins_has, has_full, St.has_add]; done) | (simp [-List.map_take, -List.map_drop, or_imp, forall_and, Seg.a, Vec.a, Leg.a, num, okEl, cells_agg, cells_int, cells_sl, cells_bool, AV.isCell]; done) | (simp; omega))) (fun _ _ => ?_))) | (with_reducible refine freshQ_i (fun _ _ => ?_)) | (with_reducible refine nilQ_i (fun _ _ => ?_))))
      have hm : madeF jf f g = ([], e) := by rw [HN.out, HE.out.1, if_neg HE.out.2]
      refine ⟨_, st, rfl, ?_, by simp, ?_, .full, by rw [hm]; rfl, rfl⟩
      · intro D' hD'
        have : D' = D := by simpa using hD'
        subst this
        exact ⟨by simp only [*, ins_objs, if_true, if_false], hDn⟩
      · refine hun.trans ?_
        (refine leX.start ?_ rfl; (repeat (refine leX.in_ (by simp only [*, ins_objs, if_true, if_false]; first | done | rfl) ?_)); (repeat (first | refine leX.new (by first | assumption | (rw [hob]; assumption)) ?_ | refine leX.old (by (simp only [List.mem_cons, true_or, or_true, eq_self]; done)) ?_)); exact leX.refl _ _)
end Go.Proofs.Ytddbnncimggogaa.V
end
section
set_option linter.unusedSimpArgs false
set_option linter.unusedVariables false
/- calc: Sub, Min, Max, Range, Add. -/
namespace Go.Proofs.Ytddbnncimggogaa.V
open Go Go.Proofs
set_option maxRecDepth 100000
set_option maxHeartbeats 4000000
theorem Sub_c (f g : List Seg) (hf : f.length ≤ 1000000) (hg : g.length ≤ 1000000) (t t' : Tok) : VPure Try.prog 33 [.sl (f.map Seg.a) t, .sl (g.map Seg.a) t'] (.tup [.sl ((madeF subV f g).1.map Seg.a) .no, num (madeF subV f g).2]) := by
  refine VPure.of v_calc_Sub_ok (Nat.le_of_ble_eq_true rfl) (fun Z st => ?_)
  have h := made_c _ _ sub_joint f g hf hg t t'
  simp only [v_calc_Sub, ↓vD, vU, VE.ev, VE.evs, retvs, tupOf, grab, vfill, vbsl, eqCells, eqCell, veqs, veqs1, vmnx, AV.isCell, AV.isUndef, Nat.reduceEqDiff, Nat.reduceAdd, Nat.reduceSub, Nat.reduceLeDiff, Nat.reduceLT, reduceIte, reduceCtorEq, Nat.reduceBEq, k_app, k_slc1]
  (repeat' (first | (simp (config := { maxDischargeDepth := 16 }) only [*, num, vX, Int.reduceLE, Int.reduceLT, Int.reduceGE, Int.reduceGT, Int.reduceBEq, Int.reduceBNe, Int.reduceAdd, Int.reduceSub, Int.reduceMul, Int.reduceNeg, ↓vD, vU, VE.ev, VE.evs, retvs, tupOf, grab, vfill, vbsl, eqCells, eqCell, veqs, veqs1, vmnx, AV.isCell, AV.isUndef, Nat.reduceEqDiff, Nat.reduceAdd, Nat.reduceSub, Nat.reduceLeDiff, Nat.reduceLT, reduceIte, reduceCtorEq, Nat.reduceBEq]) | (simp (disch := first | assumption | omega | exact Seg.len _ | exact Vec.len _ | exact Leg.len _ | exact num_len _ | exact rowA_len _ | exact rowA_len | exact rowT_len _ | exact rowT_len | exact Seg.len | exact Vec.len | exact Leg.len | exact num_len | exact AV.slen _ _ | rfl) only [num, vP]) | (with_reducible (first | refine gsnd (fun _ => ?_) (fun _ => ?_) | refine csnd (fun _ => ?_) (fun _ => ?_) | refine gsd (fun _ => ?_) (fun _ => ?_) | refine csd (fun _ => ?_) (fun _ => ?_) | refine gsn (fun _ => ?_) (fun _ => ?_) | refine csn (fun _ => ?_) (fun _ => ?_))) | (with_reducible refine gs (fun _ => ?_) (fun _ => ?_)) | (with_reducible refine cs_ (fun _ => ?_) (fun _ => ?_)) | (with_reducible refine objQ_i (fun _ _ => ?_); (repeat (with_reducible refine imp_i (fun _ => ?_)))) | ((try with_reducible refine appK_a ?_); first | (with_reducible refine appD_F (by refine ⟨?_, ?_, ?_, ?_⟩ <;> (first | assumption | omega | exact St.has_add (by assumption) | (simp only [ins_has]; exact St.has_add (by assumption)) | (simp only [ins_has, fresh_ins, kill_ins, add_ins] at *; exact St.has_add (by assumption)) | (simp only [*, ins_has, has_full, St.has_add]; done) | (simp [-List.map_take, -List.map_drop, or_imp, forall_and, Seg.a, Vec.a, Leg.a, num, okEl, cells_agg, cells_int, cells_sl, cells_bool, AV.isCell]; done) | (simp; omega))) (fun _ _ => ?_)) | (with_reducible refine appD_V (by refine ⟨?_, ?_, ?_, ?_, ?_⟩ <;> (first | assumption | omega | exact St.has_add (by assumption) | (simp only [ins_has]; exact St.has_add (by assumption)) | (simp only [ins_has, fresh_ins, kill_ins, add_ins] at *; exact St.has_add (by assumption)) | (simp only [*, ins_has, has_full, St.has_add]; done) | (simp [-List.map_take, -List.map_drop, or_imp, forall_and, Seg.a, Vec.a, Leg.a, num, okEl, cells_agg, cells_int, cells_sl, cells_bool, AV.isCell]; done) | (simp; omega))) (fun _ _ => ?_))) | (with_reducible refine freshQ_i (fun _ _ => ?_)) | (with_reducible refine nilQ_i (fun _ _ => ?_)) | (with_reducible first | refine callH_use (h) ?_ | refine pureQ_use (h) ?_)))
theorem Min_c (f g : List Seg) (hf : f.length ≤ 1000000) (hg : g.length ≤ 1000000) (t t' : Tok) : VPure Try.prog 35 [.sl (f.map Seg.a) t, .sl (g.map Seg.a) t'] (.tup [.sl ((madeF (fun a b => (minV a b, 0)) f g).1.map Seg.a) .no, num (madeF (fun a b => (minV a b, 0)) f g).2]) := by
  refine VPure.of v_calc_Min_ok (Nat.le_of_ble_eq_true rfl) (fun Z st => ?_)
  have h := made_c _ _ min_joint f g hf hg t t'
  simp only [v_calc_Min, ↓vD, vU, VE.ev, VE.evs, retvs, tupOf, grab, vfill, vbsl, eqCells, eqCell, veqs, veqs1, vmnx, AV.isCell, AV.isUndef, Nat.reduceEqDiff, Nat.reduceAdd, Nat.reduceSub, Nat.reduceLeDiff, Nat.reduceLT, reduceIte, reduceCtorEq, Nat.reduceBEq, k_app, k_slc1]
  (repeat' (first | (simp (config := { maxDischargeDepth := 16 }) only [*, num, vX, Int.reduceLE, Int.reduceLT, Int.reduceGE, Int.reduceGT, Int.reduceBEq, Int.reduceBNe, Int.reduceAdd, Int.reduceSub, Int.reduceMul, Int.reduceNeg, ↓vD, vU, VE.ev, VE.evs, retvs, tupOf, grab, vfill, vbsl, eqCells, eqCell, veqs, veqs1, vmnx, AV.isCell, AV.isUndef, Nat.reduceEqDiff, Nat.reduceAdd, Nat.reduceSub, Nat.reduceLeDiff, Nat.reduceLT, reduceIte, reduceCtorEq, Nat.reduceBEq]) | (simp (disch := first | assumption | omega | exact Seg.len _ | exact Vec.len _ | exact Leg.len _ | exact num_len _ | exact rowA_len _ | exact rowA_len | exact rowT_len _ | exact rowT_len | exact Seg.len | exact Vec.len | exact Leg.len | exact num_len | exact AV.slen _ _ | rfl) only [num, vP]) | (with_reducible (first | refine gsnd (fun _ => ?_) (fun _ => ?_) | refine csnd (fun _ => ?_) (fun _ => ?_) | refine gsd (fun _ => ?_) (fun _ => ?_) | refine csd (fun _ => ?_) (fun _ => ?_) | refine gsn (fun _ => ?_) (fun _ => ?_) | refine csn (fun _ => ?_) (fun _ => ?_))) | (with_reducible refine gs (fun _ => ?_) (fun _ => ?_)) | (with_reducible refine cs_ (fun _ => ?_) (fun _ => ?_)) | (with_reducible refine objQ_i (fun _ _ => ?_); (repeat (with_reducible refine imp_i (fun _ => ?_)))) | ((try with_reducible refine appK_a ?_); first | (with_reducible refine appD_F (by refine ⟨?_, ?_, ?_, ?_⟩ <;> (first | assumption | omega | exact St.has_add (by assumption) | (simp only [ins_has]; exact St.has_add (by assumption)) | (simp only [ins_has, fresh_ins, kill_ins, add_ins] at *; exact St.has_add (by assumption)) | (simp only [*, ins_has, has_full, St.has_add]; done) | (simp [-List.map_take, -List.map_drop, or_imp, forall_and, Seg.a, Vec.a, Leg.a, num, okEl, cells_agg, cells_int, cells_sl, cells_bool, AV.isCell]; done) | (simp; omega))) (fun _ _ => ?_)) | (with_reducible refine appD_V (by refine ⟨?_, ?_, ?_, ?_, ?_⟩ <;> (first | assumption | omega | exact St.has_add (by assumption) | (simp only [ins_has]; exact St.has_add (by assumption)) | (simp only [ins_has, fresh_ins, kill_ins, add_ins] at *; exact St.has_add (by assumption)) | (simp only [*, ins_has, has_full, St.has_add]; done) | (simp [-List.map_take, -List.map_drop, or_imp, forall_and, Seg.a, Vec.a, Leg.a, num, okEl, cells_agg, cells_int, cells_sl, cells_bool, AV.isCell]; done) | (simp; omega))) (fun _ _ => ?_))) | (with_reducible refine freshQ_i (fun _ _ => ?_)) | (with_reducible refine nilQ_i (fun _ _ => ?_)) | (with_reducible first | refine callH_use (plain_c _) ?_ | refine pureQ_use (plain_c _) ?_) | (with_reducible first | refine callH_use (h) ?_ | refine pureQ_use (h) ?_)))
def rangeC (f : List Seg) (a b : Int) (v : Vec) : List Seg × Int := if mayF f then (if (boxF1 a b v).2 = 0 then madeF add2 f (boxF1 a b v).1 else ([], (boxF1 a b v).2)) else ([], 5)
theorem boxF1_len (a b : Int) (v : Vec) : (boxF1 a b v).1.length ≤ 2 := by
  unfold boxF1; split
  · simp
  · unfold ofF; split
    · exact foldF_len _
    · simp
theorem Range_c (f : List Seg) (hf : f.length ≤ 1000000) (t : Tok) (a b m c : Int) : VPure Try.prog 26 [.sl (f.map Seg.a) t, .int .i64 a, .int .i64 b, .agg [.int .i64 m, .int .i64 c]] (.tup [.sl ((rangeC f a b ⟨m, c⟩).1.map Seg.a) .no, num (rangeC f a b ⟨m, c⟩).2]) := by
  refine VPure.tokT (fun Z st => ?_)
  have hm := may1_c f hf .full t
  have hb := Box_v a b m c
  have hl := boxF1_len a b ⟨m, c⟩
  obtain ⟨r, hr⟩ : ∃ r, boxF1 a b ⟨m, c⟩ = r := ⟨_, rfl⟩
  have hd := made_c _ _ sum_joint f r.1 hf (by rw [hr] at hl; omega) t .no
  rw [hr] at hb hl
  have HR : Hid (rangeC f a b ⟨m, c⟩ = if mayF f then (if r.2 = 0 then madeF add2 f r.1 else ([], r.2)) else ([], 5)) := ⟨by unfold rangeC; rw [hr]⟩
  clear hr hl
  unfold num at hb hd
  refine VCalls.of v_calc_Range_ok (Nat.le_of_ble_eq_true rfl) ?_
  simp only [v_calc_Range, ↓vD, vU, VE.ev, VE.evs, retvs, tupOf, grab, vfill, vbsl, eqCells, eqCell, veqs, veqs1, vmnx, AV.isCell, AV.isUndef, Nat.reduceEqDiff, Nat.reduceAdd, Nat.reduceSub, Nat.reduceLeDiff, Nat.reduceLT, reduceIte, reduceCtorEq, Nat.reduceBEq, k_app, k_slc1]
  (repeat' (first | (simp (config := { maxDischargeDepth := 16 }) only [*, vX, Int.reduceLE, Int.reduceLT, Int.reduceGE, Int.reduceGT, Int.reduceBEq, Int.reduceBNe, Int.reduceAdd, Int.reduceSub, Int.reduceMul, Int.reduceNeg, ↓vD, vU, VE.ev, VE.evs, retvs, tupOf, grab, vfill, vbsl, eqCells, eqCell, veqs, veqs1, vmnx, AV.isCell, AV.isUndef, Nat.reduceEqDiff, Nat.reduceAdd, Nat.reduceSub, Nat.reduceLeDiff, Nat.reduceLT, reduceIte, reduceCtorEq, Nat.reduceBEq]) | (simp (disch := first | assumption | omega | exact Seg.len _ | exact Vec.len _ | exact Leg.len _ | exact num_len _ | exact rowA_len _ | exact rowA_len | exact rowT_len _ | exact rowT_len | exact Seg.len | exact Vec.len | exact Leg.len | exact num_len | exact AV.slen _ _ | rfl) only [vP]) | (with_reducible (first | refine gsnd (fun _ => ?_) (fun _ => ?_) | refine csnd (fun _ => ?_) (fun _ => ?_) | refine gsd (fun _ => ?_) (fun _ => ?_) | refine csd (fun _ => ?_) (fun _ => ?_) | refine gsn (fun _ => ?_) (fun _ => ?_) | refine csn (fun _ => ?_) (fun _ => ?_))) | (with_reducible refine gs (fun _ => ?_) (fun _ => ?_)) | (with_reducible refine cs_ (fun _ => ?_) (fun _ => ?_)) | (with_reducible refine objQ_i (fun _ _ => ?_); (repeat (with_reducible refine imp_i (fun _ => ?_)))) | ((try with_reducible refine appK_a ?_); first | (with_reducible refine appD_F (by refine ⟨?_, ?_, ?_, ?_⟩ <;> (first | assumption | omega | exact St.has_add (by assumption) | (simp only [ins_has]; exact St.has_add (by assumption)) | (simp only [ins_has, fresh_ins, kill_ins, add_ins] at *; exact St.has_add (by assumption)) | (simp only [*, ins_has, has_full, St.has_add]; done) | (simp [-List.map_take, -List.map_drop, or_imp, forall_and, Seg.a, Vec.a, Leg.a, num, okEl, cells_agg, cells_int, cells_sl, cells_bool, AV.isCell]; done) | (simp; omega))) (fun _ _ => ?_)) | (with_reducible refine appD_V (by refine ⟨?_, ?_, ?_, ?_, ?_⟩ <;> (first | assumption | omega | exact St.has_add (by assumption) | (simp only [ins_has]; exact St.has_add (by assumption)) | (simp only [ins_has, fresh_ins, kill_ins, add_ins] at *; exact St.has_add (by assumption)) | (simp only [*, ins_has, has_full, St.has_add]; done) | (simp [-List.map_take, -List.map_drop, or_imp, forall_and, Seg.a, Vec.a, Leg.a, num, okEl, cells_agg, cells_int, cells_sl, cells_bool, AV.isCell]; done) | (simp; omega))) (fun _ _ => ?_))) | (with_reducible refine freshQ_i (fun _ _ => ?_)) | (with_reducible refine nilQ_i (fun _ _ => ?_)) | (with_reducible first | refine callH_use (hm) ?_ | refine pureQ_use (hm) ?_) | (with_reducible first | refine callH_use (hb) ?_ | refine pureQ_use (hb) ?_) | (with_reducible first | refine callH_use (hd) ?_ | refine pureQ_use (hd) ?_) | (with_reducible first | refine callH_use (sum_c) ?_ | refine pureQ_use (sum_c) ?_)))
  · rename_i h1
    exact ⟨st, by (refine ⟨fun i o e => ?_, fun _ h => h⟩; revert e; simp only [St.ins, add_objs, kill_objs]; (repeat' split); all_goals (first | exact id | (intros; contradiction) | (intros; subst_vars; contradiction) | (intros; simp_all; done) | (intros; subst_vars; simp_all; done))), .full, by rw [HR.out, h1]; rfl, rfl⟩
  · rename_i h1 h2
    have h3 : ¬ r.2 = 0 := by simpa using h2
    exact ⟨st, by (refine ⟨fun i o e => ?_, fun _ h => h⟩; revert e; simp only [St.ins, add_objs, kill_objs]; (repeat' split); all_goals (first | exact id | (intros; contradiction) | (intros; subst_vars; contradiction) | (intros; simp_all; done) | (intros; subst_vars; simp_all; done))), .full, by rw [HR.out, h1, if_pos rfl, if_neg h3]; rfl, rfl⟩
  · rename_i h1 h2
    have h3 : r.2 = 0 := by simpa using h2
    exact ⟨st, by (refine ⟨fun i o e => ?_, fun _ h => h⟩; revert e; simp only [St.ins, add_objs, kill_objs]; (repeat' split); all_goals (first | exact id | (intros; contradiction) | (intros; subst_vars; contradiction) | (intros; simp_all; done) | (intros; subst_vars; simp_all; done))), .no, by rw [HR.out, h1, if_pos rfl, if_pos h3]; rfl, rfl⟩
theorem rawJ_len (jf : Vec → Vec → Vec × Int) : ∀ (L : List (Int × Vec × Vec)) (acc : List Seg), (rawJ jf L acc).1.length ≤ acc.length + L.length
  | [], acc => Nat.le_refl _
  | it :: L, acc => by
    unfold rawJ
    split
    · have := rawJ_len jf L (acc ++ [⟨it.1, (jf it.2.1 it.2.2).1⟩])
      simp at this ⊢; omega
    · simp
theorem madeF_len (jf : Vec → Vec → Vec × Int) (f g : List Seg) : (madeF jf f g).1.length ≤ f.length + g.length := by
  have h1 := rawJ_len jf (bothF f g v0 v0) []
  have h2 := bothF_len f g v0 v0
  have h3 := foldF_len (rawJ jf (bothF f g v0 v0) []).1
  simp at h1
  unfold madeF; split
  · split
    · unfold ofF; split
      · simp; omega
      · simp
    · simp
  · simp
def addG : List (List Seg) → List Seg → List Seg × Int
  | [], acc => (acc, 0)
  | x :: r, acc => if (madeF add2 acc x).2 = 0 then addG r (madeF add2 acc x).1 else ([], (madeF add2 acc x).2)
def addC (ls : List (List Seg)) : List Seg × Int := if ls.all mayF then addG ls [] else ([], 5)
theorem addG_drop (ls : List (List Seg)) (k : Nat) (h : k < ls.length) (acc : List Seg) : addG (ls.drop k) acc = if (madeF add2 acc ls[k]).2 = 0 then addG (ls.drop (k + 1)) (madeF add2 acc ls[k]).1 else ([], (madeF add2 acc ls[k]).2) := by
  rw [List.drop_eq_getElem_cons h]; rfl
theorem Add_c (ls : List (List Seg × Tok)) (hn : ls.length ≤ 1000) (hl : ∀ f ∈ ls, f.1.length ≤ 1000) (t : Tok) : VPure Try.prog 31 [.sl (ls.map rowT) t] (.tup [.sl ((addC (ls.map (·.1))).1.map Seg.a) .no, num (addC (ls.map (·.1))).2]) := by
  refine VPure.tokT (fun Z st => ?_)
  have hm := may_c ls hn (fun f hf => by have := hl f hf; omega) t
  have HD := Hid.mk (fun (acc : List Seg) (f : List Seg × Tok) (ha : acc.length ≤ 1000000) (hf : f ∈ ls) (t : Tok) => made_c _ _ sum_joint acc f.1 ha (by have := hl f hf; omega) t f.2)
  have HL := Hid.mk hl
  have HA : Hid ((ls.all fun p => mayF p.1) = (ls.map (·.1)).all mayF) := ⟨by rw [List.all_map]; rfl⟩
  clear hl
  refine VCalls.of v_calc_Add_ok (Nat.le_of_ble_eq_true rfl) ?_
  simp only [v_calc_Add, ↓vD, vU, VE.ev, VE.evs, retvs, tupOf, grab, vfill, vbsl, eqCells, eqCell, veqs, veqs1, vmnx, AV.isCell, AV.isUndef, Nat.reduceEqDiff, Nat.reduceAdd, Nat.reduceSub, Nat.reduceLeDiff, Nat.reduceLT, reduceIte, reduceCtorEq, Nat.reduceBEq, k_app, k_slc1]
  (repeat' (first | (simp (config := { maxDischargeDepth := 16 }) only [*, vX, Int.reduceLE, Int.reduceLT, Int.reduceGE, Int.reduceGT, Int.reduceBEq, Int.reduceBNe, Int.reduceAdd, Int.reduceSub, Int.reduceMul, Int.reduceNeg, ↓vD, vU, VE.ev, VE.evs, retvs, tupOf, grab, vfill, vbsl, eqCells, eqCell, veqs, veqs1, vmnx, AV.isCell, AV.isUndef, Nat.reduceEqDiff, Nat.reduceAdd, Nat.reduceSub, Nat.reduceLeDiff, Nat.reduceLT, reduceIte, reduceCtorEq, Nat.reduceBEq]) | (simp (disch := first | assumption | omega | exact Seg.len _ | exact Vec.len _ | exact Leg.len _ | exact num_len _ | exact rowA_len _ | exact rowA_len | exact rowT_len _ | exact rowT_len | exact Seg.len | exact Vec.len | exact Leg.len | exact num_len | exact AV.slen _ _ | rfl) only [vP]) | (with_reducible (first | refine gsnd (fun _ => ?_) (fun _ => ?_) | refine csnd (fun _ => ?_) (fun _ => ?_) | refine gsd (fun _ => ?_) (fun _ => ?_) | refine csd (fun _ => ?_) (fun _ => ?_) | refine gsn (fun _ => ?_) (fun _ => ?_) | refine csn (fun _ => ?_) (fun _ => ?_))) | (with_reducible refine gs (fun _ => ?_) (fun _ => ?_)) | (with_reducible refine cs_ (fun _ => ?_) (fun _ => ?_)) | (with_reducible refine objQ_i (fun _ _ => ?_); (repeat (with_reducible refine imp_i (fun _ => ?_)))) | ((try with_reducible refine appK_a ?_); first | (with_reducible refine appD_F (by refine ⟨?_, ?_, ?_, ?_⟩ <;> (first | assumption | omega | exact St.has_add (by assumption) | (simp only [ins_has]; exact St.has_add (by assumption)) | (simp only [ins_has, fresh_ins, kill_ins, add_ins] at *; exact St.has_add (by assumption)) | (simp only [*, ins_has, has_full, St.has_add]; done) | (simp [-List.map_take, -List.map_drop, or_imp, forall_and, Seg.a, Vec.a, Leg.a, num, okEl, cells_agg, cells_int, cells_sl, cells_bool, AV.isCell]; done) | (simp; omega))) (fun _ _ => ?_)) | (with_reducible refine appD_V (by refine ⟨?_, ?_, ?_, ?_, ?_⟩ <;> (first | assumption | omega | exact St.has_add (by assumption) | (simp only [ins_has]; exact St.has_add (by assumption)) | (simp only [ins_has, fresh_ins, kill_ins, add_ins] at *; exact St.has_add (by assumption)) | (simp only [*, ins_has, has_full, St.has_add]; done) | (simp [-List.map_take, -List.map_drop, or_imp, forall_and, Seg.a, Vec.a, Leg.a, num, okEl, cells_agg, cells_int, cells_sl, cells_bool, AV.isCell]; done) | (simp; omega))) (fun _ _ => ?_))) | (with_reducible refine freshQ_i (fun _ _ => ?_)) | (with_reducible refine nilQ_i (fun _ _ => ?_)) | (with_reducible first | refine callH_use (hm) ?_ | refine pureQ_use (hm) ?_)))
  · rename_i h1
    exact ⟨st, St.le.refl _, .full, by unfold addC; rw [← HA.out, h1]; rfl, rfl⟩
  rename_i hall
  have HR : Hid (addC (ls.map (·.1)) = addG (ls.map (·.1)) []) := ⟨by unfold addC; rw [← HA.out, hall]; rfl⟩
  clear hall hm
  refine loopf_of (len := ls.length) (by simp only [asgL, dsts, List.cons_append, List.nil_append, List.append_nil]; rfl) (by simp only [noR, Bool.and_true, Bool.and_false]; rfl) (by omega) (fun k fr2 s2 => ∃ acc t', s2 = st ∧ fr2.t 14 = .int .i64 k ∧ fr2.t 4 = .sl (acc.map Seg.a) t' ∧ acc.length ≤ 1000 * k ∧ Hid (addG ((ls.map (·.1)).drop k) acc = addC (ls.map (·.1)))) ?_ ?_ ?_
  · exact ⟨[], .full, rfl, by simp [↓vD, vU, VE.ev, VE.evs, retvs, tupOf, grab, vfill, vbsl, eqCells, eqCell, veqs, veqs1, vmnx, AV.isCell, AV.isUndef, Nat.reduceEqDiff, Nat.reduceAdd, Nat.reduceSub, Nat.reduceLeDiff, Nat.reduceLT, reduceIte, reduceCtorEq, Nat.reduceBEq, k_app, k_slc1], by simp [↓vD, vU, VE.ev, VE.evs, retvs, tupOf, grab, vfill, vbsl, eqCells, eqCell, veqs, veqs1, vmnx, AV.isCell, AV.isUndef, Nat.reduceEqDiff, Nat.reduceAdd, Nat.reduceSub, Nat.reduceLeDiff, Nat.reduceLT, reduceIte, reduceCtorEq, Nat.reduceBEq, k_app, k_slc1], by simp, ⟨by rw [HR.out]; rfl⟩⟩
  · rintro k fr2 s2 hk2 hw2 hf2 hd2 ⟨acc, tk, rfl, h6, h5, hal, HK⟩
    have hmem := List.getElem_mem hk2
    have hDo := HD.out acc ls[k] (by omega) hmem tk
    have hstep := addG_drop (ls.map (·.1)) k (by simpa using hk2) acc
    have hrl := madeF_len add2 acc ls[k].1
    have hfl := HL.out ls[k] hmem
    rw [List.getElem_map] at hstep
    clear hmem
    obtain ⟨r, hr⟩ : ∃ r, madeF add2 acc ls[k].1 = r := ⟨_, rfl⟩
    rw [hr] at hDo hstep hrl
    have HS := Hid.mk hstep
    unfold num at hDo
    clear hr hstep
    (repeat' (first | (simp (config := { maxDischargeDepth := 16 }) only [*, rowT, vX, Int.reduceLE, Int.reduceLT, Int.reduceGE, Int.reduceGT, Int.reduceBEq, Int.reduceBNe, Int.reduceAdd, Int.reduceSub, Int.reduceMul, Int.reduceNeg, ↓vD, vU, VE.ev, VE.evs, retvs, tupOf, grab, vfill, vbsl, eqCells, eqCell, veqs, veqs1, vmnx, AV.isCell, AV.isUndef, Nat.reduceEqDiff, Nat.reduceAdd, Nat.reduceSub, Nat.reduceLeDiff, Nat.reduceLT, reduceIte, reduceCtorEq, Nat.reduceBEq]) | (simp (disch := first | assumption | omega | exact Seg.len _ | exact Vec.len _ | exact Leg.len _ | exact num_len _ | exact rowA_len _ | exact rowA_len | exact rowT_len _ | exact rowT_len | exact Seg.len | exact Vec.len | exact Leg.len | exact num_len | exact AV.slen _ _ | rfl) only [rowT, vP]) | (with_reducible (first | refine gsnd (fun _ => ?_) (fun _ => ?_) | refine csnd (fun _ => ?_) (fun _ => ?_) | refine gsd (fun _ => ?_) (fun _ => ?_) | refine csd (fun _ => ?_) (fun _ => ?_) | refine gsn (fun _ => ?_) (fun _ => ?_) | refine csn (fun _ => ?_) (fun _ => ?_))) | (with_reducible refine gs (fun _ => ?_) (fun _ => ?_)) | (with_reducible refine cs_ (fun _ => ?_) (fun _ => ?_)) | (with_reducible refine objQ_i (fun _ _ => ?_); (repeat (with_reducible refine imp_i (fun _ => ?_)))) | ((try with_reducible refine appK_a ?_); first | (with_reducible refine appD_F (by refine ⟨?_, ?_, ?_, ?_⟩ <;> (first | assumption | omega | exact St.has_add (by assumption) | (simp only [ins_has]; exact St.has_add (by assumption)) | (simp only [ins_has, fresh_ins, kill_ins, add_ins] at *; exact St.has_add (by assumption)) | (simp only [*, ins_has, has_full, St.has_add]; done) | (simp [-List.map_take, -List.map_drop, or_imp, forall_and, Seg.a, Vec.a, Leg.a, num, okEl, cells_agg, cells_int, cells_sl, cells_bool, AV.isCell]; done) | (simp; omega))) (fun _ _ => ?_)) | (with_reducible refine appD_V (by refine ⟨?_, ?_, ?_, ?_, ?_⟩ <;> (first | assumption | omega | exact St.has_add (by assumption) | (simp only [ins_has]; exact St.has_add (by assumption)) | (simp only [ins_has, fresh_ins, kill_ins, add_ins] at *; exact St.has_add (by assumption)) | (simp only [*, ins_has, has_full, St.has_add]; done) | (simp [-List.map_take, -List.map_drop, or_imp, forall_and, Seg.a, Vec.a, Leg.a, num, okEl, cells_agg, cells_int, cells_sl, cells_bool, AV.isCell]; done) | (simp; omega))) (fun _ _ => ?_))) | (with_reducible refine freshQ_i (fun _ _ => ?_)) | (with_reducible refine nilQ_i (fun _ _ => ?_)) | (with_reducible first | refine callH_use (hDo) ?_ | refine pureQ_use (hDo) ?_) | (with_reducible first | refine callH_use (sum_c) ?_ | refine pureQ_use (sum_c) ?_)))
    · rename_i hc
      have hc' : ¬ r.2 = 0 := by simpa using hc
      exact ⟨s2, St.le.refl _, .full, by rw [← HK.out, HS.out, if_neg hc']; rfl, rfl⟩
    · rename_i hc
      have hc' : r.2 = 0 := by simpa using hc
      exact ⟨s2, St.le.refl _, r.1, .no, rfl, rfl, by omega, ⟨by rw [← HS.out.symm.trans HK.out, if_pos hc']⟩⟩
  · rintro fr2 s2 hf2 hd2 ⟨acc, tk, rfl, h6, h5, hal, HK⟩
    rw [List.drop_of_length_le (by simp)] at HK
    (repeat' (first | (simp (config := { maxDischargeDepth := 16 }) only [*, vX, Int.reduceLE, Int.reduceLT, Int.reduceGE, Int.reduceGT, Int.reduceBEq, Int.reduceBNe, Int.reduceAdd, Int.reduceSub, Int.reduceMul, Int.reduceNeg, ↓vD, vU, VE.ev, VE.evs, retvs, tupOf, grab, vfill, vbsl, eqCells, eqCell, veqs, veqs1, vmnx, AV.isCell, AV.isUndef, Nat.reduceEqDiff, Nat.reduceAdd, Nat.reduceSub, Nat.reduceLeDiff, Nat.reduceLT, reduceIte, reduceCtorEq, Nat.reduceBEq]) | (simp (disch := first | assumption | omega | exact Seg.len _ | exact Vec.len _ | exact Leg.len _ | exact num_len _ | exact rowA_len _ | exact rowA_len | exact rowT_len _ | exact rowT_len | exact Seg.len | exact Vec.len | exact Leg.len | exact num_len | exact AV.slen _ _ | rfl) only [vP]) | (with_reducible (first | refine gsnd (fun _ => ?_) (fun _ => ?_) | refine csnd (fun _ => ?_) (fun _ => ?_) | refine gsd (fun _ => ?_) (fun _ => ?_) | refine csd (fun _ => ?_) (fun _ => ?_) | refine gsn (fun _ => ?_) (fun _ => ?_) | refine csn (fun _ => ?_) (fun _ => ?_))) | (with_reducible refine gs (fun _ => ?_) (fun _ => ?_)) | (with_reducible refine cs_ (fun _ => ?_) (fun _ => ?_)) | (with_reducible refine objQ_i (fun _ _ => ?_); (repeat (with_reducible refine imp_i (fun _ => ?_)))) | ((try with_reducible refine appK_a ?_); first | (with_reducible refine appD_F (by refine ⟨?_, ?_, ?_, ?_⟩ <;> (first | assumption | omega | exact St.has_add (by assumption) | (simp only [ins_has]; exact St.has_add (by assumption)) | (simp only [ins_has, fresh_ins, kill_ins, add_ins] at *; exact St.has_add (by assumption)) | (simp only [*, ins_has, has_full, St.has_add]; done) | (simp [-List.map_take, -List.map_drop, or_imp, forall_and, Seg.a, Vec.a, Leg.a, num, okEl, cells_agg, cells_int, cells_sl, cells_bool, AV.isCell]; done) | (simp; omega))) (fun _ _ => ?_)) | (with_reducible refine appD_V (by refine ⟨?_, ?_, ?_, ?_, ?_⟩ <;> (first | assumption | omega | exact St.has_add (by assumption) | (simp only [ins_has]; exact St.has_add (by assumption)) | (simp only [ins_has, fresh_ins, kill_ins, add_ins] at *; exact St.has_add (by assumption)) | (simp only [*, ins_has, has_full, St.has_add]; done) | (simp [-List.map_take, -List.map_drop, or_imp, forall_and, Seg.a, Vec.a, Leg.a, num, okEl, cells_agg, cells_int, cells_sl, cells_bool, AV.isCell]; done) | (simp; omega))) (fun _ _ => ?_))) | (with_reducible refine freshQ_i (fun _ _ => ?_)) | (with_reducible refine nilQ_i (fun _ _ => ?_))))
    exact ⟨s2, St.le.refl _, tk, by rw [← HK.out]; rfl, rfl⟩
end Go.Proofs.Ytddbnncimggogaa.V
end
section
set_option linter.unusedSimpArgs false
set_option linter.unusedVariables false
/- liveryref03.LE. -/
namespace Go.Proofs.Ytddbnncimggogaa.V
open Go Go.Proofs
set_option maxRecDepth 100000
set_option maxHeartbeats 4000000
def leV (a b : Vec) : Bool := decide (a.m ≤ b.m) && decide (a.c ≤ b.c)
def leHit (f g : List Seg) (a t : Int) : Bool := decide (a ≤ t) && !leV (atF f t) (atF g t)
def leFind (us : List Int) (p : Int → Bool) : Int × Bool × Int := match us.find? p with | some t => (t, false, 0) | none => (0, true, 0)
def leR (f g : List Seg) (a : Int) : Int × Bool × Int := if mayF f && mayF g then leFind (timesF (timesF (f.map (·.t) ++ g.map (·.t)) ++ [a])) (leHit f g a) else (0, false, 5)
theorem find_at {α : Type} {p : α → Bool} {xs : List α} {k : Nat} (hk : k < xs.length) (h0 : ∀ j (h : j < k), p (xs[j]'(by omega)) = false) (h : p xs[k] = true) : xs.find? p = some xs[k] := by
  rw [List.find?_eq_some_iff_getElem]
  exact ⟨h, k, hk, rfl, fun j hj => by rw [h0 j hj]; rfl⟩
theorem find_no {α : Type} {p : α → Bool} {xs : List α} (h0 : ∀ j (h : j < xs.length), p xs[j] = false) : xs.find? p = none := by
  rw [List.find?_eq_none]
  intro x hx
  obtain ⟨k, hk, rfl⟩ := List.getElem_of_mem hx
  rw [h0 k hk]; simp
end Go.Proofs.Ytddbnncimggogaa.V
end
section
set_option linter.unusedSimpArgs false
set_option linter.unusedVariables false
/- calc.LE. -/
namespace Go.Proofs.Ytddbnncimggogaa.V
open Go Go.Proofs
set_option maxRecDepth 100000
set_option maxHeartbeats 4000000
def hitI (a : Int) (it : Int × Vec × Vec) : Bool := decide (a ≤ it.1) && !leV it.2.1 it.2.2
def leFindI (L : List (Int × Vec × Vec)) (p : Int × Vec × Vec → Bool) : Int × Bool × Int := match L.find? p with | some it => (it.1, false, 0) | none => (0, true, 0)
def leC (f g : List Seg) (a : Int) : Int × Bool × Int := if mayF f && mayF g then (if leV (atF f a) (atF g a) then leFindI (bothF f g v0 v0) (hitI a) else (a, false, 0)) else (0, false, 5)
theorem LE_c (f g : List Seg) (hf : f.length ≤ 1000000) (hg : g.length ≤ 1000000) (t t' : Tok) (a : Int) : VPure Try.prog 37 [.sl (f.map Seg.a) t, .sl (g.map Seg.a) t', .int .i64 a] (.tup [num (leC f g a).1, .bool (leC f g a).2.1, num (leC f g a).2.2]) := by
  refine VPure.of v_calc_LE_ok (Nat.le_of_ble_eq_true rfl) (fun Z st => ?_)
  have hmay := may2_c f g hf hg .full t t'
  have hA := At_v f (by omega) t a
  have hB := At_v g (by omega) t' a
  unfold num at hA hB
  obtain ⟨L, hL⟩ : ∃ L, bothF f g v0 v0 = L := ⟨_, rfl⟩
  have HM : Hid (leC f g a = if mayF f && mayF g then (if leV (atF f a) (atF g a) then leFindI L (hitI a) else (a, false, 0)) else (0, false, 5)) := ⟨by unfold leC; rw [hL]⟩
  have HL := Hid.mk hL
  clear hL
  simp only [v_calc_LE, ↓vD, vU, VE.ev, VE.evs, retvs, tupOf, grab, vfill, vbsl, eqCells, eqCell, veqs, veqs1, vmnx, AV.isCell, AV.isUndef, Nat.reduceEqDiff, Nat.reduceAdd, Nat.reduceSub, Nat.reduceLeDiff, Nat.reduceLT, reduceIte, reduceCtorEq, Nat.reduceBEq, k_app, k_slc1]
  (repeat' (first | (simp (config := { maxDischargeDepth := 16 }) only [*, num, vX, Int.reduceLE, Int.reduceLT, Int.reduceGE, Int.reduceGT, Int.reduceBEq, Int.reduceBNe, Int.reduceAdd, Int.reduceSub, Int.reduceMul, Int.reduceNeg, ↓vD, vU, VE.ev, VE.evs, retvs, tupOf, grab, vfill, vbsl, eqCells, eqCell, veqs, veqs1, vmnx, AV.isCell, AV.isUndef, Nat.reduceEqDiff, Nat.reduceAdd, Nat.reduceSub, Nat.reduceLeDiff, Nat.reduceLT, reduceIte, reduceCtorEq, Nat.reduceBEq]) | (simp (disch := first | assumption | omega | exact Seg.len _ | exact Vec.len _ | exact Leg.len _ | exact num_len _ | exact rowA_len _ | exact rowA_len | exact rowT_len _ | exact rowT_len | exact Seg.len | exact Vec.len | exact Leg.len | exact num_len | exact AV.slen _ _ | rfl) only [num, vP]) | (with_reducible (first | refine gsnd (fun _ => ?_) (fun _ => ?_) | refine csnd (fun _ => ?_) (fun _ => ?_) | refine gsd (fun _ => ?_) (fun _ => ?_) | refine csd (fun _ => ?_) (fun _ => ?_) | refine gsn (fun _ => ?_) (fun _ => ?_) | refine csn (fun _ => ?_) (fun _ => ?_))) | (with_reducible refine gs (fun _ => ?_) (fun _ => ?_)) | (with_reducible refine cs_ (fun _ => ?_) (fun _ => ?_)) | (with_reducible refine objQ_i (fun _ _ => ?_); (repeat (with_reducible refine imp_i (fun _ => ?_)))) | ((try with_reducible refine appK_a ?_); first | (with_reducible refine appD_F (by refine ⟨?_, ?_, ?_, ?_⟩ <;> (first | assumption | omega | exact St.has_add (by assumption) | (simp only [ins_has]; exact St.has_add (by assumption)) | (simp only [ins_has, fresh_ins, kill_ins, add_ins] at *; exact St.has_add (by assumption)) | (simp only [*, ins_has, has_full, St.has_add]; done) | (simp [-List.map_take, -List.map_drop, or_imp, forall_and, Seg.a, Vec.a, Leg.a, num, okEl, cells_agg, cells_int, cells_sl, cells_bool, AV.isCell]; done) | (simp; omega))) (fun _ _ => ?_)) | (with_reducible refine appD_V (by refine ⟨?_, ?_, ?_, ?_, ?_⟩ <;> (first | assumption | omega | exact St.has_add (by assumption) | (simp only [ins_has]; exact St.has_add (by assumption)) | (simp only [ins_has, fresh_ins, kill_ins, add_ins] at *; exact St.has_add (by assumption)) | (simp only [*, ins_has, has_full, St.has_add]; done) | (simp [-List.map_take, -List.map_drop, or_imp, forall_and, Seg.a, Vec.a, Leg.a, num, okEl, cells_agg, cells_int, cells_sl, cells_bool, AV.isCell]; done) | (simp; omega))) (fun _ _ => ?_))) | (with_reducible refine freshQ_i (fun _ _ => ?_)) | (with_reducible refine nilQ_i (fun _ _ => ?_)) | (with_reducible first | refine callH_use (hmay) ?_ | refine pureQ_use (hmay) ?_) | (with_reducible first | refine callH_use (hA) ?_ | refine pureQ_use (hA) ?_) | (with_reducible first | refine callH_use (hB) ?_ | refine pureQ_use (hB) ?_) | (with_reducible first | refine callH_use (LE_v _ _ _ _) ?_ | refine pureQ_use (LE_v _ _ _ _) ?_)))
  · rename_i hm
    rw [HM.out, hm]; rfl
  · have hm : (mayF f && mayF g) = true := by assumption
    have h2 : leV (atF f a) (atF g a) = false := by
      show (decide ((atF f a).m ≤ (atF g a).m) && decide ((atF f a).c ≤ (atF g a).c)) = false
      assumption
    rw [HM.out, hm, h2]; rfl
  rename_i b5 h5 b6 h6 n65 n56 b7 h7 n75 n57 n76 n67 b8 h8 n85 n58 n86 n68 n87 n78 hm hle
  have HN : Hid (leC f g a = leFindI L (hitI a)) := ⟨by
    have h2 : leV (atF f a) (atF g a) = true := hle
    rw [HM.out, hm, h2]; rfl⟩
  clear HM hmay hA hB
  refine callH_then (both_c f g t t' _) ?_
  rintro _ _ ⟨bf, bg, hbf, hbg, nfg, rfl, rfl⟩
  have ngf : ¬ bg = bf := fun e => nfg e.symm
  simp only [ins_objs, ite_some_none] at hbf hbg
  simp only [↓vD, vU, VE.ev, VE.evs, retvs, tupOf, grab, vfill, vbsl, eqCells, eqCell, veqs, veqs1, vmnx, AV.isCell, AV.isUndef, Nat.reduceEqDiff, Nat.reduceAdd, Nat.reduceSub, Nat.reduceLeDiff, Nat.reduceLT, reduceIte, reduceCtorEq, Nat.reduceBEq, k_app, k_slc1]
  refine rng_of (gf := 121) (fs := []) (cs := [.ptr bf 0, .ptr bg 0]) ?_ ?_
  · simp only [↓vD, vU, VE.ev, VE.evs, retvs, tupOf, grab, vfill, vbsl, eqCells, eqCell, veqs, veqs1, vmnx, AV.isCell, AV.isUndef, Nat.reduceEqDiff, Nat.reduceAdd, Nat.reduceSub, Nat.reduceLeDiff, Nat.reduceLT, reduceIte, reduceCtorEq, Nat.reduceBEq, k_app, k_slc1]
  intro Y l D r hzy hl hD nlD hyY
  simp only [ins_objs, ite_some_none] at hl hD
  obtain ⟨ngb8, nb8g, ngb7, nb7g, ngb6, nb6g, ngb5, nb5g, hgn⟩ := hbg
  obtain ⟨nfb8, nb8f, nfb7, nb7f, nfb6, nb6f, nfb5, nb5f, hfn⟩ := hbf
  obtain ⟨nlg, ngl, nlf, nfl, nl8, n8l, nl7, n7l, nl6, n6l, nl5, n5l, hln⟩ := hl
  obtain ⟨nDg, ngD, nDf, nfD, nD8, n8D, nD7, n7D, nD6, n6D, nD5, n5D, hDn⟩ := hD
  have nDl : ¬ D = l := fun e => nlD e.symm
  have hmain := both_it (Y := Y) (l := l) f g t t' bf bg nfg (MS b5 b6 b7 b8 D l (.int .i64 a) (.int .i64 0) (.bool false) (.int .i64 0) (lobj r .ready none) st)
    (by simp only [MS, ins_objs, ite_some_none, *, not_false_eq_true, and_self, if_false]) (by simp only [MS, ins_objs, ite_some_none, *, not_false_eq_true, and_self, if_false])
    (fun k S => S = MS b5 b6 b7 b8 D l (.int .i64 a) (.int .i64 0) (.bool false) (.int .i64 0) (lobj r .ready none) st ∧ Hid (∀ j (h1 : j < k) (h2 : j < L.length), hitI a L[j] = false))
    (fun S => ∃ u, S = MS b5 b6 b7 b8 D l (.int .i64 a) (.int .i64 u) (.bool false) (.int .i64 0) (lobj r .done (some .ret)) st ∧ Hid (leFindI L (hitI a) = (u, false, 0)))
    (by rintro k S ⟨rfl, _⟩ i hi; exact MS_none rfl hi) (by rintro S ⟨u, rfl, _⟩ i hi; exact MS_none rfl hi)
    ⟨rfl, ⟨fun j h => by omega⟩⟩ ?_
  rotate_left
  · rw [HL.out]
    rintro k hk S b4 o2 o3 o4 ⟨rfl, HK⟩ hSf hSg hS4 nf4 ng4
    have n4f : ¬ b4 = bf := fun e => nf4 e.symm
    have n4g : ¬ b4 = bg := fun e => ng4 e.symm
    simp only [MS, ins_objs, ite_some_none] at hS4
    obtain ⟨n4l, nl4, n4D, nD4, n48, n84, n47, n74, n46, n64, n45, n54, hW4⟩ := hS4
    have hfind := fun h => find_at (p := hitI a) hk (fun j hj => HK.out j hj (by omega)) h
    obtain ⟨it, hit⟩ : ∃ it, L[k] = it := ⟨_, rfl⟩
    have HT := Hid.mk hit
    simp only [hit] at hfind ⊢
    obtain ⟨tt, va, vc⟩ := it
    have HF := Hid.mk hfind
    have hobD : st.objs D = none := hDn
    clear hit hfind
    refine hyY _ _ _ rfl (by simp only [XS, MS, ins_objs, *, if_true, if_false]) ?_
    rw [XS, MS]
    clear hyY
    (repeat' (first | (simp (config := { maxDischargeDepth := 16 }) only [*, argsFr2_t, argsFr2_d, nowA, qr_normal, qr_ret, qr_exit, vX, Int.reduceLE, Int.reduceLT, Int.reduceGE, Int.reduceGT, Int.reduceBEq, Int.reduceBNe, Int.reduceAdd, Int.reduceSub, Int.reduceMul, Int.reduceNeg, ↓vD, vU, VE.ev, VE.evs, retvs, tupOf, grab, vfill, vbsl, eqCells, eqCell, veqs, veqs1, vmnx, AV.isCell, AV.isUndef, Nat.reduceEqDiff, Nat.reduceAdd, Nat.reduceSub, Nat.reduceLeDiff, Nat.reduceLT, reduceIte, reduceCtorEq, Nat.reduceBEq]) | (simp (disch := first | assumption | omega | exact Seg.len _ | exact Vec.len _ | exact Leg.len _ | exact num_len _ | exact rowA_len _ | exact rowA_len | exact rowT_len _ | exact rowT_len | exact Seg.len | exact Vec.len | exact Leg.len | exact num_len | exact AV.slen _ _ | rfl) only [argsFr2_t, argsFr2_d, nowA, qr_normal, qr_ret, qr_exit, vP]) | (with_reducible (first | refine gsnd (fun _ => ?_) (fun _ => ?_) | refine csnd (fun _ => ?_) (fun _ => ?_) | refine gsd (fun _ => ?_) (fun _ => ?_) | refine csd (fun _ => ?_) (fun _ => ?_) | refine gsn (fun _ => ?_) (fun _ => ?_) | refine csn (fun _ => ?_) (fun _ => ?_))) | (with_reducible refine gs (fun _ => ?_) (fun _ => ?_)) | (with_reducible refine cs_ (fun _ => ?_) (fun _ => ?_)) | (with_reducible refine objQ_i (fun _ _ => ?_); (repeat (with_reducible refine imp_i (fun _ => ?_)))) | ((try with_reducible refine appK_a ?_); first | (with_reducible refine appD_F (by refine ⟨?_, ?_, ?_, ?_⟩ <;> (first | assumption | omega | exact St.has_add (by assumption) | (simp only [ins_has]; exact St.has_add (by assumption)) | (simp only [ins_has, fresh_ins, kill_ins, add_ins] at *; exact St.has_add (by assumption)) | (simp only [*, ins_has, has_full, St.has_add]; done) | (simp [-List.map_take, -List.map_drop, or_imp, forall_and, Seg.a, Vec.a, Leg.a, num, okEl, cells_agg, cells_int, cells_sl, cells_bool, AV.isCell]; done) | (simp; omega))) (fun _ _ => ?_)) | (with_reducible refine appD_V (by refine ⟨?_, ?_, ?_, ?_, ?_⟩ <;> (first | assumption | omega | exact St.has_add (by assumption) | (simp only [ins_has]; exact St.has_add (by assumption)) | (simp only [ins_has, fresh_ins, kill_ins, add_ins] at *; exact St.has_add (by assumption)) | (simp only [*, ins_has, has_full, St.has_add]; done) | (simp [-List.map_take, -List.map_drop, or_imp, forall_and, Seg.a, Vec.a, Leg.a, num, okEl, cells_agg, cells_int, cells_sl, cells_bool, AV.isCell]; done) | (simp; omega))) (fun _ _ => ?_))) | (with_reducible refine freshQ_i (fun _ _ => ?_)) | (with_reducible refine nilQ_i (fun _ _ => ?_)) | (with_reducible first | refine callH_use (LE_v _ _ _ _) ?_ | refine pureQ_use (LE_v _ _ _ _) ?_)))
    · have h3 : a ≤ tt := by assumption
      have h4 : (decide (va.m ≤ vc.m) && decide (va.c ≤ vc.c)) = false := by assumption
      have hh : hitI a (tt, va, vc) = true := by simp only [hitI, leV, h4, decide_eq_true h3]; rfl
      refine .inr ⟨rfl, MS b5 b6 b7 b8 D l (.int .i64 a) (.int .i64 tt) (.bool false) (.int .i64 0) (lobj r .done (some .ret)) st, ⟨tt, rfl, ⟨by rw [leFindI, HF.out hh]⟩⟩, ?_⟩
      rw [XS, MS]
      (refine leX.start ?_ rfl; (repeat (refine leX.in_ (by simp only [*, ins_objs, if_true, if_false]; first | done | rfl) ?_)); (repeat (first | refine leX.new (by first | assumption | (rw [hob]; assumption)) ?_ | refine leX.old (by (simp only [List.mem_cons, true_or, or_true, eq_self]; done)) ?_)); exact leX.refl _ _)
    all_goals
      have hh : hitI a (tt, va, vc) = false := by
        first
        | (simp only [hitI, decide_eq_false (by assumption : ¬ a ≤ tt)]; rfl)
        | (simp only [hitI, leV, (by assumption : (decide (va.m ≤ vc.m) && decide (va.c ≤ vc.c)) = true)]; simp)
      refine .inl ⟨rfl, MS b5 b6 b7 b8 D l (.int .i64 a) (.int .i64 0) (.bool false) (.int .i64 0) (lobj r .ready none) st, ⟨rfl, ⟨fun j h1 h2 => ?_⟩⟩, ?_⟩
      · rcases Nat.lt_or_ge j k with hjk | hjk
        · exact HK.out j hjk h2
        · have hj : j = k := by omega
          subst hj
          rw [HT.out]; exact hh
      · rw [XS, MS]
        clear hh
        (refine leX.start ?_ rfl; (repeat (refine leX.in_ (by simp only [*, ins_objs, if_true, if_false]; first | done | rfl) ?_)); (repeat (first | refine leX.new (by first | assumption | (rw [hob]; assumption)) ?_ | refine leX.old (by (simp only [List.mem_cons, true_or, or_true, eq_self]; done)) ?_)); exact leX.refl _ _)
  · refine VCalls.st_eq (VCalls.wk hmain ?_) (by rw [MS]; exact (by simp only [St.ins]; congr 1; funext i; (repeat' split) <;> (first | rfl | contradiction | (subst_vars; contradiction) | (subst_vars; rfl))))
    rintro v s ⟨rfl, S', hIE, hle⟩
    refine ⟨_, S', Wk.le hle _, ?_⟩
    clear hmain hle
    rcases hIE with ⟨rfl, HK⟩ | ⟨u, rfl, HE⟩
    · refine ⟨.ready, none, by simp, by simp [MS, St.ins], ?_⟩
      rw [jq_none, MS]
      rw [HL.out] at HK
      have hno := find_no (p := hitI a) (xs := L) (fun j h => HK.out j h h)
      have HO := Hid.mk hno
      clear hyY HK hno
      (repeat' (first | (simp (config := { maxDischargeDepth := 16 }) only [*, vX, Int.reduceLE, Int.reduceLT, Int.reduceGE, Int.reduceGT, Int.reduceBEq, Int.reduceBNe, Int.reduceAdd, Int.reduceSub, Int.reduceMul, Int.reduceNeg, ↓vD, vU, VE.ev, VE.evs, retvs, tupOf, grab, vfill, vbsl, eqCells, eqCell, veqs, veqs1, vmnx, AV.isCell, AV.isUndef, Nat.reduceEqDiff, Nat.reduceAdd, Nat.reduceSub, Nat.reduceLeDiff, Nat.reduceLT, reduceIte, reduceCtorEq, Nat.reduceBEq]) | (simp (disch := first | assumption | omega | exact Seg.len _ | exact Vec.len _ | exact Leg.len _ | exact num_len _ | exact rowA_len _ | exact rowA_len | exact rowT_len _ | exact rowT_len | exact Seg.len | exact Vec.len | exact Leg.len | exact num_len | exact AV.slen _ _ | rfl) only [vP]) | (with_reducible (first | refine gsnd (fun _ => ?_) (fun _ => ?_) | refine csnd (fun _ => ?_) (fun _ => ?_) | refine gsd (fun _ => ?_) (fun _ => ?_) | refine csd (fun _ => ?_) (fun _ => ?_) | refine gsn (fun _ => ?_) (fun _ => ?_) | refine csn (fun _ => ?_) (fun _ => ?_))) | (with_reducible refine gs (fun _ => ?_) (fun _ => ?_)) | (with_reducible refine cs_ (fun _ => ?_) (fun _ => ?_)) | (with_reducible refine objQ_i (fun _ _ => ?_); (repeat (with_reducible refine imp_i (fun _ => ?_)))) | ((try with_reducible refine appK_a ?_); first | (with_reducible refine appD_F (by refine ⟨?_, ?_, ?_, ?_⟩ <;> (first | assumption | omega | exact St.has_add (by assumption) | (simp only [ins_has]; exact St.has_add (by assumption)) | (simp only [ins_has, fresh_ins, kill_ins, add_ins] at *; exact St.has_add (by assumption)) | (simp only [*, ins_has, has_full, St.has_add]; done) | (simp [-List.map_take, -List.map_drop, or_imp, forall_and, Seg.a, Vec.a, Leg.a, num, okEl, cells_agg, cells_int, cells_sl, cells_bool, AV.isCell]; done) | (simp; omega))) (fun _ _ => ?_)) | (with_reducible refine appD_V (by refine ⟨?_, ?_, ?_, ?_, ?_⟩ <;> (first | assumption | omega | exact St.has_add (by assumption) | (simp only [ins_has]; exact St.has_add (by assumption)) | (simp only [ins_has, fresh_ins, kill_ins, add_ins] at *; exact St.has_add (by assumption)) | (simp only [*, ins_has, has_full, St.has_add]; done) | (simp [-List.map_take, -List.map_drop, or_imp, forall_and, Seg.a, Vec.a, Leg.a, num, okEl, cells_agg, cells_int, cells_sl, cells_bool, AV.isCell]; done) | (simp; omega))) (fun _ _ => ?_))) | (with_reducible refine freshQ_i (fun _ _ => ?_)) | (with_reducible refine nilQ_i (fun _ _ => ?_))))
      have hm : leC f g a = (0, true, 0) := by rw [HN.out, leFindI, HO.out]
      refine ⟨_, st, rfl, ?_, by simp, ?_, by rw [hm]; rfl, rfl⟩
      · intro D' hD'
        have : D' = D := by simpa using hD'
        subst this
        exact ⟨by simp only [*, ins_objs, if_true, if_false], hDn⟩
      · (refine leX.start ?_ rfl; (repeat (refine leX.in_ (by simp only [*, ins_objs, if_true, if_false]; first | done | rfl) ?_)); (repeat (first | refine leX.new (by first | assumption | (rw [hob]; assumption)) ?_ | refine leX.old (by (simp only [List.mem_cons, true_or, or_true, eq_self]; done)) ?_)); exact leX.refl _ _)
    · refine ⟨.done, some .ret, by simp, by simp [MS, St.ins], ?_⟩
      rw [jq_ret, MS]
      clear hyY
      (repeat' (first | (simp (config := { maxDischargeDepth := 16 }) only [*, vX, Int.reduceLE, Int.reduceLT, Int.reduceGE, Int.reduceGT, Int.reduceBEq, Int.reduceBNe, Int.reduceAdd, Int.reduceSub, Int.reduceMul, Int.reduceNeg, ↓vD, vU, VE.ev, VE.evs, retvs, tupOf, grab, vfill, vbsl, eqCells, eqCell, veqs, veqs1, vmnx, AV.isCell, AV.isUndef, Nat.reduceEqDiff, Nat.reduceAdd, Nat.reduceSub, Nat.reduceLeDiff, Nat.reduceLT, reduceIte, reduceCtorEq, Nat.reduceBEq]) | (simp (disch := first | assumption | omega | exact Seg.len _ | exact Vec.len _ | exact Leg.len _ | exact num_len _ | exact rowA_len _ | exact rowA_len | exact rowT_len _ | exact rowT_len | exact Seg.len | exact Vec.len | exact Leg.len | exact num_len | exact AV.slen _ _ | rfl) only [vP]) | (with_reducible (first | refine gsnd (fun _ => ?_) (fun _ => ?_) | refine csnd (fun _ => ?_) (fun _ => ?_) | refine gsd (fun _ => ?_) (fun _ => ?_) | refine csd (fun _ => ?_) (fun _ => ?_) | refine gsn (fun _ => ?_) (fun _ => ?_) | refine csn (fun _ => ?_) (fun _ => ?_))) | (with_reducible refine gs (fun _ => ?_) (fun _ => ?_)) | (with_reducible refine cs_ (fun _ => ?_) (fun _ => ?_)) | (with_reducible refine objQ_i (fun _ _ => ?_); (repeat (with_reducible refine imp_i (fun _ => ?_)))) | ((try with_reducible refine appK_a ?_); first | (with_reducible refine appD_F (by refine ⟨?_, ?_, ?_, ?_⟩ <;> (first | assumption | omega | exact St.has_add (by assumption) | (simp only [ins_has]; exact St.has_add (by assumption)) | (simp only [ins_has, fresh_ins, kill_ins, add_ins] at *; exact St.has_add (by assumption)) | (simp only [*, ins_has, has_full, St.has_add]; done) | (simp [-List.map_take, -List.map_drop, or_imp, forall_and, Seg.a, Vec.a, Leg.a, num, okEl, cells_agg, cells_int, cells_sl, cells_bool, AV.isCell]; done) | (simp; omega))) (fun _ _ => ?_)) | (with_reducible refine appD_V (by refine ⟨?_, ?_, ?_, ?_, ?_⟩ <;> (first | assumption | omega | exact St.has_add (by assumption) | (simp only [ins_has]; exact St.has_add (by assumption)) | (simp only [ins_has, fresh_ins, kill_ins, add_ins] at *; exact St.has_add (by assumption)) | (simp only [*, ins_has, has_full, St.has_add]; done) | (simp [-List.map_take, -List.map_drop, or_imp, forall_and, Seg.a, Vec.a, Leg.a, num, okEl, cells_agg, cells_int, cells_sl, cells_bool, AV.isCell]; done) | (simp; omega))) (fun _ _ => ?_))) | (with_reducible refine freshQ_i (fun _ _ => ?_)) | (with_reducible refine nilQ_i (fun _ _ => ?_))))
      have hm : leC f g a = (u, false, 0) := by rw [HN.out, HE.out]
      refine ⟨_, st, rfl, ?_, by simp, ?_, by rw [hm]; rfl, rfl⟩
      · intro D' hD'
        have : D' = D := by simpa using hD'
        subst this
        exact ⟨by simp only [*, ins_objs, if_true, if_false], hDn⟩
      · (refine leX.start ?_ rfl; (repeat (refine leX.in_ (by simp only [*, ins_objs, if_true, if_false]; first | done | rfl) ?_)); (repeat (first | refine leX.new (by first | assumption | (rw [hob]; assumption)) ?_ | refine leX.old (by (simp only [List.mem_cons, true_or, or_true, eq_self]; done)) ?_)); exact leX.refl _ _)
end Go.Proofs.Ytddbnncimggogaa.V
end
section
set_option linter.unusedSimpArgs false
set_option linter.unusedVariables false
/- What calc's functions mean: plain. -/
namespace Go.Proofs.Ytddbnncimggogaa.V
open Go Go.Proofs Go.Proofs.Ytddbnncimggogaa.SP
/-! ### Rising rows of times -/
theorem up_unique : ∀ (l m : List Int), l.Pairwise (· < ·) → m.Pairwise (· < ·) → (∀ x, x ∈ l ↔ x ∈ m) → l = m
  | [], [], _, _, _ => rfl
  | [], y :: m, _, _, h => absurd ((h y).2 (by simp)) (by simp)
  | x :: l, [], _, _, h => absurd ((h x).1 (by simp)) (by simp)
  | x :: l, y :: m, hl, hm, h => by
    have h1 := List.pairwise_cons.1 hl
    have h2 := List.pairwise_cons.1 hm
    have hxy : x = y := by
      have a := (h x).1 (by simp)
      have b := (h y).2 (by simp)
      rcases List.mem_cons.1 a with a | a
      · exact a
      · rcases List.mem_cons.1 b with b | b
        · exact b.symm
        · have := h1.1 y b; have := h2.1 x a; omega
    subst hxy
    congr 1
    refine up_unique l m h1.2 h2.2 (fun z => ⟨fun hz => ?_, fun hz => ?_⟩)
    · rcases List.mem_cons.1 ((h z).1 (by simp [hz])) with e | e
      · have := h1.1 z hz; omega
      · exact e
    · rcases List.mem_cons.1 ((h z).2 (by simp [hz])) with e | e
      · have := h2.1 z hz; omega
      · exact e
def insR : List Int → Int → List Int
  | [], x => [x]
  | y :: l, x => if y < x then y :: insR l x else if y = x then y :: l else x :: y :: l
theorem insT_R : ∀ (l : List Int) (x : Int), insT l x = insR l x
  | [], x => by simp [insT, insR, cntT]
  | y :: l, x => by
    have ih := insT_R l x
    unfold insT at ih
    unfold insT insR cntT
    by_cases h : y < x
    · rw [if_pos h, if_pos h]
      simp only [List.getElem?_cons_succ, List.take_succ_cons, List.drop_succ_cons, List.cons_append]
      rw [← ih]
      split <;> rfl
    · rw [if_neg h, if_neg h]
      by_cases h2 : y = x
      · simp [h2]
      · simp [h2]
theorem mem_insR : ∀ (l : List Int) (x z : Int), z ∈ insR l x ↔ z = x ∨ z ∈ l
  | [], x, z => by simp [insR]
  | y :: l, x, z => by
    unfold insR
    split
    · simp only [List.mem_cons, mem_insR l x z]; grind
    · split <;> simp only [List.mem_cons] <;> grind
theorem up_insR : ∀ (l : List Int) (x : Int), l.Pairwise (· < ·) → (insR l x).Pairwise (· < ·)
  | [], x, _ => by simp [insR]
  | y :: l, x, h => by
    have hy := List.pairwise_cons.1 h
    unfold insR
    split
    · rename_i h1
      refine List.pairwise_cons.2 ⟨fun z hz => ?_, up_insR l x hy.2⟩
      rcases (mem_insR l x z).1 hz with rfl | hz
      · exact h1
      · exact hy.1 z hz
    · split
      · exact h
      · refine List.pairwise_cons.2 ⟨fun z hz => ?_, h⟩
        rcases List.mem_cons.1 hz with rfl | hz
        · omega
        · have := hy.1 z hz; omega
theorem times_fold : ∀ (l acc : List Int), acc.Pairwise (· < ·) → (l.foldl insT acc).Pairwise (· < ·) ∧ ∀ z, z ∈ l.foldl insT acc ↔ z ∈ acc ∨ z ∈ l
  | [], acc, h => ⟨h, by simp⟩
  | x :: l, acc, h => by
    have h1 : (insT acc x).Pairwise (· < ·) := by rw [insT_R]; exact up_insR acc x h
    obtain ⟨a, b⟩ := times_fold l (insT acc x) h1
    refine ⟨a, fun z => ?_⟩
    rw [List.foldl_cons, b z, insT_R, mem_insR, List.mem_cons]
    grind
theorem timesF_up (l : List Int) : (timesF l).Pairwise (· < ·) := (times_fold l [] List.Pairwise.nil).1
theorem mem_timesF (l : List Int) (z : Int) : z ∈ timesF l ↔ z ∈ l := by
  have := (times_fold l [] List.Pairwise.nil).2 z
  simpa [timesF] using this
theorem timesF_self {l : List Int} (h : l.Pairwise (· < ·)) : timesF l = l := up_unique _ _ (timesF_up l) h (mem_timesF l)
/-! ### What may be -/
def mayL : List Seg → Vec → Int → Bool
  | [], _, _ => true
  | x :: r, l, a => !odd l a x && mayL r x.v x.t
def oddG (l : Vec) (a : Int) (xs : List Seg) (k : Nat) : Bool := (xs[k]?.map (odd (if k = 0 then l else (xs[k - 1]?.map (·.v)).getD v0) (if k = 0 then a else (xs[k - 1]?.map (·.t)).getD 0))).getD false
theorem mayL_any : ∀ (xs : List Seg) (l : Vec) (a : Int), (List.range xs.length).any (oddG l a xs) = !mayL xs l a
  | [], l, a => rfl
  | x :: r, l, a => by
    have ih := mayL_any r x.v x.t
    rw [List.length_cons, List.range_succ_eq_map, List.any_cons, List.any_map]
    have e : (oddG l a (x :: r)) ∘ Nat.succ = oddG x.v x.t r := by
      funext k
      cases k with
      | zero => simp [oddG]
      | succ k => simp [oddG]
    rw [e, ih]
    simp [oddG, mayL]
theorem mayF_L (xs : List Seg) : mayF xs = mayL xs v0 (-1125899906842625) := by
  have h := mayL_any xs v0 (-1125899906842625)
  have e : oddI xs = oddG v0 (-1125899906842625) xs := by funext k; rfl
  unfold mayF
  rw [e, h]; simp
theorem mayL_iff : ∀ (xs : List Seg) (l : Vec) (a : Int), mayL xs l a = true ↔ Canon xs l ∧ (∀ x ∈ xs, inSeg x = true) ∧ ∀ x ∈ xs, a < x.t
  | [], l, a => by simp [mayL, Canon]
  | x :: r, l, a => by
    rw [mayL, Bool.and_eq_true, mayL_iff r x.v x.t, Canon]
    have ho : (!odd l a x) = true ↔ inSeg x = true ∧ ¬ x.v = l ∧ a < x.t := by
      unfold odd
      simp only [Bool.not_eq_true', Bool.or_eq_false_iff, beq_eq_false_iff_ne, ne_eq, decide_eq_false_iff_not, Bool.not_eq_false']
      constructor
      · rintro ⟨⟨h1, h2⟩, h3⟩; exact ⟨h1, h2, by omega⟩
      · rintro ⟨h1, h2, h3⟩; exact ⟨⟨h1, h2⟩, by omega⟩
    rw [ho]
    constructor
    · rintro ⟨⟨h1, h2, h3⟩, h4, h5, h6⟩
      refine ⟨⟨h2, h6, h4⟩, fun y hy => ?_, fun y hy => ?_⟩
      · rcases List.mem_cons.1 hy with rfl | hy
        · exact h1
        · exact h5 y hy
      · rcases List.mem_cons.1 hy with rfl | hy
        · exact h3
        · have := h6 y hy; omega
    · rintro ⟨⟨h2, h6, h4⟩, h5, h7⟩
      exact ⟨⟨h5 x (by simp), h2, h7 x (by simp)⟩, h4, fun y hy => h5 y (by simp [hy]), h6⟩
theorem mayF_iff (xs : List Seg) : mayF xs = true ↔ Canon xs v0 ∧ ∀ x ∈ xs, inSeg x = true := by
  rw [mayF_L, mayL_iff]
  refine ⟨fun h => ⟨h.1, h.2.1⟩, fun h => ⟨h.1, h.2, fun x hx => ?_⟩⟩
  have := h.2 x hx
  unfold inSeg inR at this
  simp only [Bool.and_eq_true, decide_eq_true_eq] at this
  omega
theorem Canon.up : ∀ {xs : List Seg} {l : Vec}, Canon xs l → (xs.map (·.t)).Pairwise (· < ·)
  | [], _, _ => List.Pairwise.nil
  | x :: r, l, h => by
    rw [List.map_cons, List.pairwise_cons]
    refine ⟨fun z hz => ?_, h.2.2.up⟩
    obtain ⟨y, hy, rfl⟩ := List.mem_map.1 hz
    exact h.2.1 y hy
/-! ### Both at once -/
theorem atF_P (xs : List Seg) (t : Int) : atF xs t = atP v0 xs t := rfl
theorem both_spec : ∀ (f g : List Seg) (a b : Vec), (f.map (·.t)).Pairwise (· < ·) → (g.map (·.t)).Pairwise (· < ·) →
    ((bothF f g a b).map (·.1)).Pairwise (· < ·) ∧ (∀ t, t ∈ (bothF f g a b).map (·.1) ↔ t ∈ f.map (·.t) ∨ t ∈ g.map (·.t)) ∧ ∀ it ∈ bothF f g a b, it.2.1 = atP a f it.1 ∧ it.2.2 = atP b g it.1
  | [], [], a, b, _, _ => by rw [bothF]; simp
  | x :: f, [], a, b, hf, hg => by
    rw [List.map_cons, List.pairwise_cons] at hf
    obtain ⟨h1, h2, h3⟩ := both_spec f [] x.v b hf.2 hg
    have hlt : ∀ t ∈ (bothF f [] x.v b).map (·.1), x.t < t := fun t ht => hf.1 t (by rcases (h2 t).1 ht with h | h; exact h; simp at h)
    rw [bothF]
    refine ⟨by rw [List.map_cons, List.pairwise_cons]; exact ⟨hlt, h1⟩, fun t => ?_, fun it hit => ?_⟩
    · rw [List.map_cons, List.mem_cons, h2 t]; simp
    · rcases List.mem_cons.1 hit with rfl | hit
      · refine ⟨?_, rfl⟩
        rw [atP_cons _ _ _ _ (Int.le_refl _), atP_late _ _ _ (fun z hz => hf.1 z.t (List.mem_map.2 ⟨z, hz, rfl⟩))]
      · have hl := hlt it.1 (List.mem_map.2 ⟨it, hit, rfl⟩)
        rw [atP_cons _ _ _ _ (by omega)]
        exact h3 it hit
  | [], y :: g, a, b, hf, hg => by
    rw [List.map_cons, List.pairwise_cons] at hg
    obtain ⟨h1, h2, h3⟩ := both_spec [] g a y.v hf hg.2
    have hlt : ∀ t ∈ (bothF [] g a y.v).map (·.1), y.t < t := fun t ht => hg.1 t (by rcases (h2 t).1 ht with h | h; simp at h; exact h)
    rw [bothF]
    refine ⟨by rw [List.map_cons, List.pairwise_cons]; exact ⟨hlt, h1⟩, fun t => ?_, fun it hit => ?_⟩
    · rw [List.map_cons, List.mem_cons, h2 t]; simp
    · rcases List.mem_cons.1 hit with rfl | hit
      · refine ⟨rfl, ?_⟩
        rw [atP_cons _ _ _ _ (Int.le_refl _), atP_late _ _ _ (fun z hz => hg.1 z.t (List.mem_map.2 ⟨z, hz, rfl⟩))]
      · have hl := hlt it.1 (List.mem_map.2 ⟨it, hit, rfl⟩)
        rw [atP_cons b _ _ _ (by omega)]
        exact h3 it hit
  | x :: f, y :: g, a, b, hf, hg => by
    have hf' := hf; have hg' := hg
    rw [List.map_cons, List.pairwise_cons] at hf hg
    have lateF : ∀ t, t ≤ x.t → ∀ z ∈ f, t < z.t := fun t ht z hz => by have := hf.1 z.t (List.mem_map.2 ⟨z, hz, rfl⟩); omega
    have lateG : ∀ t, t ≤ y.t → ∀ z ∈ g, t < z.t := fun t ht z hz => by have := hg.1 z.t (List.mem_map.2 ⟨z, hz, rfl⟩); omega
    rw [bothF]
    split
    · rename_i c
      obtain ⟨h1, h2, h3⟩ := both_spec f (y :: g) x.v b hf.2 hg'
      have hlt : ∀ t ∈ (bothF f (y :: g) x.v b).map (·.1), x.t < t := fun t ht => by
        rcases (h2 t).1 ht with h | h
        · exact hf.1 t h
        · rw [List.map_cons, List.mem_cons] at h
          rcases h with rfl | h
          · exact c
          · have := hg.1 t h; omega
      refine ⟨by rw [List.map_cons, List.pairwise_cons]; exact ⟨hlt, h1⟩, fun t => ?_, fun it hit => ?_⟩
      · rw [List.map_cons, List.mem_cons, h2 t]; simp only [List.map_cons, List.mem_cons]; grind
      · rcases List.mem_cons.1 hit with rfl | hit
        · refine ⟨?_, ?_⟩
          · rw [atP_cons _ _ _ _ (Int.le_refl _), atP_late _ _ _ (lateF _ (Int.le_refl _))]
          · rw [atP_late b _ _ (fun z hz => by rcases List.mem_cons.1 hz with rfl | hz; exact c; exact lateG _ (Int.le_of_lt c) z hz)]
        · have hl := hlt it.1 (List.mem_map.2 ⟨it, hit, rfl⟩)
          rw [atP_cons a _ _ _ (by omega)]
          exact h3 it hit
    · split
      · rename_i c0 c
        obtain ⟨h1, h2, h3⟩ := both_spec (x :: f) g a y.v hf' hg.2
        have hlt : ∀ t ∈ (bothF (x :: f) g a y.v).map (·.1), y.t < t := fun t ht => by
          rcases (h2 t).1 ht with h | h
          · rw [List.map_cons, List.mem_cons] at h
            rcases h with rfl | h
            · exact c
            · have := hf.1 t h; omega
          · exact hg.1 t h
        refine ⟨by rw [List.map_cons, List.pairwise_cons]; exact ⟨hlt, h1⟩, fun t => ?_, fun it hit => ?_⟩
        · rw [List.map_cons, List.mem_cons, h2 t]; simp only [List.map_cons, List.mem_cons]; grind
        · rcases List.mem_cons.1 hit with rfl | hit
          · refine ⟨?_, ?_⟩
            · rw [atP_late a _ _ (fun z hz => by rcases List.mem_cons.1 hz with rfl | hz; exact c; exact lateF _ (Int.le_of_lt c) z hz)]
            · rw [atP_cons _ _ _ _ (Int.le_refl _), atP_late _ _ _ (lateG _ (Int.le_refl _))]
          · have hl := hlt it.1 (List.mem_map.2 ⟨it, hit, rfl⟩)
            rw [atP_cons b _ _ _ (by omega)]
            exact h3 it hit
      · rename_i c0 c1
        have c : x.t = y.t := by omega
        obtain ⟨h1, h2, h3⟩ := both_spec f g x.v y.v hf.2 hg.2
        have hlt : ∀ t ∈ (bothF f g x.v y.v).map (·.1), x.t < t := fun t ht => by
          rcases (h2 t).1 ht with h | h
          · exact hf.1 t h
          · have := hg.1 t h; omega
        refine ⟨by rw [List.map_cons, List.pairwise_cons]; exact ⟨hlt, h1⟩, fun t => ?_, fun it hit => ?_⟩
        · rw [List.map_cons, List.mem_cons, h2 t]; simp only [List.map_cons, List.mem_cons]; grind
        · rcases List.mem_cons.1 hit with rfl | hit
          · refine ⟨?_, ?_⟩
            · rw [atP_cons _ _ _ _ (Int.le_refl _), atP_late _ _ _ (lateF _ (Int.le_refl _))]
            · rw [atP_cons _ _ _ _ (by omega), atP_late _ _ _ (lateG _ (by omega))]
          · have hl := hlt it.1 (List.mem_map.2 ⟨it, hit, rfl⟩)
            rw [atP_cons a _ _ _ (by omega), atP_cons b _ _ _ (by omega)]
            exact h3 it hit
termination_by f g => f.length + g.length
theorem both_times (f g : List Seg) (hf : (f.map (·.t)).Pairwise (· < ·)) (hg : (g.map (·.t)).Pairwise (· < ·)) : bothF f g v0 v0 = (timesF (f.map (·.t) ++ g.map (·.t))).map fun t => (t, atF f t, atF g t) := by
  obtain ⟨h1, h2, h3⟩ := both_spec f g v0 v0 hf hg
  have e : (bothF f g v0 v0).map (·.1) = timesF (f.map (·.t) ++ g.map (·.t)) := up_unique _ _ h1 (timesF_up _) (fun t => by rw [h2 t, mem_timesF, List.mem_append])
  rw [← e, List.map_map]
  conv => lhs; rw [← List.map_id (bothF f g v0 v0)]
  refine List.map_congr_left (fun it hit => ?_)
  obtain ⟨a, b⟩ := h3 it hit
  obtain ⟨t, u, v⟩ := it
  simp only at a b
  simp [atF_P, ← a, ← b]
end Go.Proofs.Ytddbnncimggogaa.V
end
section
set_option linter.unusedSimpArgs false
set_option linter.unusedVariables false
/- calc's functions are the document's: plain. -/
namespace Go.Proofs.Ytddbnncimggogaa.V
open Go Go.Proofs Go.Proofs.Ytddbnncimggogaa.SP
theorem inR_iff (n : Int) : inR n = true ↔ -1125899906842624 ≤ n ∧ n ≤ 1125899906842624 := by unfold inR; simp
theorem mayV_iff (v : Vec) : mayV v = true ↔ (-1125899906842624 ≤ v.m ∧ v.m ≤ 1125899906842624) ∧ (-1125899906842624 ≤ v.c ∧ v.c ≤ 1125899906842624) := by
  unfold mayV; rw [Bool.and_eq_true, inR_iff, inR_iff]
theorem wr_id {n : Int} (h1 : -9223372036854775808 ≤ n) (h2 : n ≤ 9223372036854775807) : wr n = n := wrap_i64 n h1 h2
theorem atF_may {f : List Seg} (h : ∀ x ∈ f, inSeg x = true) (t : Int) : mayV (atF f t) = true := by
  unfold atF
  have : ∀ (l : List Seg) (v : Vec), (∀ x ∈ l, inSeg x = true) → mayV v = true → mayV (l.foldl (fun v x => if x.t ≤ t then x.v else v) v) = true := by
    intro l
    induction l with
    | nil => intro v _ hv; exact hv
    | cons x l ih =>
      intro v hl hv
      rw [List.foldl_cons]
      refine ih _ (fun y hy => hl y (by simp [hy])) ?_
      split
      · have := hl x (by simp)
        unfold inSeg at this
        rw [Bool.and_eq_true] at this
        exact this.2
      · exact hv
  exact this f v0 h rfl
theorem told1_all (x : Vec) (l : List Vec) (h : ∀ v ∈ l, mayV v = true) : told1 x l = toldF x := by
  unfold told1 toldF
  have : (x :: l).all mayV = mayV x := by
    rw [List.all_cons, List.all_eq_true.2 h, Bool.and_true]
  rw [this]
theorem sub_one (a b : Vec) (ha : mayV a = true) (hb : mayV b = true) : subV a b = oneR 1 a b := by
  have h1 := (mayV_iff a).1 ha
  have h2 := (mayV_iff b).1 hb
  have hn : mayV ⟨wr (-b.m), wr (-b.c)⟩ = true := by
    rw [mayV_iff, wr_id (by omega) (by omega), wr_id (by omega) (by omega)]; simp only; omega
  unfold subV oneR subR addR
  rw [told1_all _ _ (by simp [ha, hb]), if_neg (by omega), if_pos rfl, if_pos hb, if_pos (by rw [ha, hn]; rfl)]
  simp only
  rw [wr_id (n := -b.m) (by omega) (by omega), wr_id (n := -b.c) (by omega) (by omega)]
  rfl
theorem add_one (a b : Vec) (ha : mayV a = true) (hb : mayV b = true) : add2 a b = oneR 0 a b := by
  have h1 := (mayV_iff a).1 ha
  have e : (⟨wr (v0.m + a.m), wr (v0.c + a.c)⟩ : Vec) = a := by
    rw [wr_id (by simp only [v0]; omega) (by simp only [v0]; omega), wr_id (by simp only [v0]; omega) (by simp only [v0]; omega)]
    simp [v0]
  unfold add2 addF oneR addR
  simp only
  rw [e, told1_all a [a] (by simp [ha])]
  have ht : toldF a = (a, 0) := by unfold toldF; rw [if_pos ha]
  rw [ht]
  simp only [if_true]
  unfold addF
  simp only
  rw [told1_all _ [b] (by simp [hb])]
  simp only [ha, hb, Bool.and_self, if_true]
  unfold toldF
  split <;> simp [addF]
theorem oneR_may (w : Int) (a b : Vec) (ha : mayV a = true) (hb : mayV b = true) (h : (oneR w a b).2 = 0) : mayV (oneR w a b).1 = true := by
  have h1 := (mayV_iff a).1 ha
  have h2 := (mayV_iff b).1 hb
  unfold oneR at h ⊢
  split
  · rename_i c
    rw [if_pos c] at h
    unfold addR toldF at h ⊢
    repeat' split
    all_goals simp_all
  · rename_i c
    rw [if_neg c] at h
    split
    · rename_i c2
      rw [if_pos c2] at h
      unfold subR addR toldF at h ⊢
      repeat' split
      all_goals simp_all
    · split
      · rw [mayV_iff]; simp only [minV]; omega
      · rw [mayV_iff]; simp only [maxV]; omega
/-! ### Values one behind the other -/
def withs (h : Int → Vec) (ts : List Int) (acc : List Seg) : List Seg := ts.foldl (fun f t => withF f t (h t)) acc
theorem lastW_snoc (f : List Seg) (x : Seg) : lastW (f ++ [x]) = x.v := by simp [lastW]
theorem canon_snoc : ∀ (f : List Seg) (l : Vec) (x : Seg), Canon f l → (∀ y ∈ f, y.t < x.t) → ¬ x.v = ((f.getLast?.map (·.v)).getD l) → Canon (f ++ [x]) l
  | [], l, x, _, _, h => ⟨by simpa using h, by simp, trivial⟩
  | y :: f, l, x, hf, ht, h => by
    refine ⟨hf.1, fun z hz => ?_, canon_snoc f y.v x hf.2.2 (fun z hz => ht z (by simp [hz])) ?_⟩
    · rcases List.mem_append.1 hz with hz | hz
      · exact hf.2.1 z hz
      · rw [List.mem_singleton.1 hz]; exact ht y (by simp)
    · cases f with
      | nil => simpa using h
      | cons z f =>
        obtain ⟨w, hw⟩ : ∃ w, (z :: f).getLast? = some w := ⟨_, List.getLast?_eq_some_getLast (by simp)⟩
        rw [List.getLast?_cons_cons, hw] at h
        rw [hw]; exact h
theorem with_spec (f : List Seg) (t : Int) (v : Vec) (hc : Canon f v0) (hl : ∀ x ∈ f, x.t < t) :
    Canon (withF f t v) v0 ∧ (∀ x ∈ withF f t v, x.t ≤ t) ∧ (∀ x ∈ withF f t v, x ∈ f ∨ x = ⟨t, v⟩) ∧ ∀ u, atF (withF f t v) u = if t ≤ u then v else atF f u := by
  have hat : ∀ u, t ≤ u → atF f u = lastW f := by
    intro u hu
    have : ∀ (l : List Seg) (v : Vec), (∀ x ∈ l, x.t < t) → l.foldl (fun v x => if x.t ≤ u then x.v else v) v = (l.getLast?.map (·.v)).getD v := by
      intro l
      induction l with
      | nil => intro v _; rfl
      | cons x l ih =>
        intro v hx
        rw [List.foldl_cons, if_pos (by have := hx x (by simp); omega), ih _ (fun y hy => hx y (by simp [hy]))]
        cases l with
        | nil => rfl
        | cons y l =>
          obtain ⟨w, hw⟩ : ∃ w, (y :: l).getLast? = some w := ⟨_, List.getLast?_eq_some_getLast (by simp)⟩
          rw [List.getLast?_cons_cons, hw]; rfl
    exact this f v0 hl
  unfold withF
  split
  · rename_i h
    refine ⟨hc, fun x hx => by have := hl x hx; omega, fun x hx => .inl hx, fun u => ?_⟩
    split
    · rename_i hu; rw [hat u hu, h]
    · rfl
  · rename_i h
    refine ⟨canon_snoc f v0 _ hc hl h, fun x hx => ?_, fun x hx => ?_, fun u => ?_⟩
    · rcases List.mem_append.1 hx with hx | hx
      · have := hl x hx; omega
      · rw [List.mem_singleton.1 hx]; exact Int.le_refl _
    · rcases List.mem_append.1 hx with hx | hx
      · exact .inl hx
      · exact .inr (List.mem_singleton.1 hx)
    · rw [atF_snoc]
/-- The value at the last of some times that is at most a time. -/
def lastH (h : Int → Vec) (ts : List Int) (d : Vec) (u : Int) : Vec := ts.foldl (fun v t => if t ≤ u then h t else v) d
theorem withs_spec (h : Int → Vec) : ∀ (ts : List Int) (acc : List Seg), ts.Pairwise (· < ·) → Canon acc v0 → (∀ x ∈ acc, ∀ t ∈ ts, x.t < t) →
    Canon (withs h ts acc) v0 ∧ (∀ x ∈ withs h ts acc, x ∈ acc ∨ ∃ t ∈ ts, x = ⟨t, h t⟩) ∧ ∀ u, atF (withs h ts acc) u = lastH h ts (atF acc u) u
  | [], acc, _, hc, _ => ⟨hc, fun x hx => .inl hx, fun u => rfl⟩
  | t :: ts, acc, hu, hc, hl => by
    have hu2 := List.pairwise_cons.1 hu
    obtain ⟨c1, c2, c3, c4⟩ := with_spec acc t (h t) hc (fun x hx => hl x hx t (by simp))
    obtain ⟨d1, d2, d3⟩ := withs_spec h ts (withF acc t (h t)) hu2.2 c1 (fun x hx s hs => by have := c2 x hx; have := hu2.1 s hs; omega)
    refine ⟨d1, fun x hx => ?_, fun u => ?_⟩
    · rcases d2 x hx with hx | ⟨s, hs, e⟩
      · rcases c3 x hx with hx | e
        · exact .inl hx
        · exact .inr ⟨t, by simp, e⟩
      · exact .inr ⟨s, by simp [hs], e⟩
    · have := d3 u
      rw [c4] at this
      exact this
theorem lastH_at (h : Int → Vec) : ∀ (ts : List Int) (d : Vec) (u : Int), ts.Pairwise (· < ·) → (lastH h ts d u = d ∧ ∀ t ∈ ts, u < t) ∨ ∃ s ∈ ts, s ≤ u ∧ lastH h ts d u = h s ∧ ∀ t ∈ ts, t ≤ u → t ≤ s
  | [], d, u, _ => .inl ⟨rfl, by simp⟩
  | t :: ts, d, u, hu => by
    have hu2 := List.pairwise_cons.1 hu
    by_cases c : t ≤ u
    · rcases lastH_at h ts (h t) u hu2.2 with ⟨e, hn⟩ | ⟨s, hs, h1, h2, h3⟩
      · refine .inr ⟨t, by simp, c, ?_, fun z hz hzu => ?_⟩
        · unfold lastH; rw [List.foldl_cons, if_pos c]; exact e
        · rcases List.mem_cons.1 hz with rfl | hz
          · exact Int.le_refl _
          · have := hn z hz; omega
      · refine .inr ⟨s, by simp [hs], h1, ?_, fun z hz hzu => ?_⟩
        · unfold lastH; rw [List.foldl_cons, if_pos c]; exact h2
        · rcases List.mem_cons.1 hz with rfl | hz
          · have := hu2.1 s hs; omega
          · exact h3 z hz hzu
    · refine .inl ⟨?_, fun z hz => ?_⟩
      · have : ∀ (l : List Int), (∀ z ∈ l, u < z) → ∀ d, lastH h l d u = d := by
          intro l
          induction l with
          | nil => intro _ d; rfl
          | cons z l ih => intro hz d; unfold lastH; rw [List.foldl_cons, if_neg (by have := hz z (by simp); omega)]; exact ih (fun y hy => hz y (by simp [hy])) d
        exact this (t :: ts) (fun z hz => by rcases List.mem_cons.1 hz with rfl | hz; omega; have := hu2.1 z hz; omega) d
      · rcases List.mem_cons.1 hz with rfl | hz
        · omega
        · have := hu2.1 z hz; omega
/-- A function changes at its own times only. -/
theorem atF_between (f : List Seg) (s u : Int) (hsu : s ≤ u) (h : ∀ x ∈ f, ¬ (s < x.t ∧ x.t ≤ u)) : atF f u = atF f s := by
  unfold atF
  have : ∀ (l : List Seg), (∀ x ∈ l, ¬ (s < x.t ∧ x.t ≤ u)) → ∀ v, l.foldl (fun v x => if x.t ≤ u then x.v else v) v = l.foldl (fun v x => if x.t ≤ s then x.v else v) v := by
    intro l
    induction l with
    | nil => intro _ v; rfl
    | cons x l ih =>
      intro hx v
      have h1 := hx x (by simp)
      rw [List.foldl_cons, List.foldl_cons]
      have e : (if x.t ≤ u then x.v else v) = (if x.t ≤ s then x.v else v) := by
        by_cases c : x.t ≤ s
        · rw [if_pos c, if_pos (by omega)]
        · rw [if_neg c, if_neg (by omega)]
      rw [e]
      exact ih (fun y hy => hx y (by simp [hy])) _
  exact this f h v0
theorem atF_early (f : List Seg) (u : Int) (h : ∀ x ∈ f, u < x.t) : atF f u = v0 := atP_late v0 f u h
/-! ### The document's function of two -/
theorem doF_ok (w : Int) (f g : List Seg) : ∀ (ts : List Int) (acc : List Seg), (∀ t ∈ ts, (oneR w (atF f t) (atF g t)).2 = 0) → doF w f g ts acc = (withs (fun t => (oneR w (atF f t) (atF g t)).1) ts acc, 0)
  | [], acc, _ => rfl
  | t :: ts, acc, h => by
    unfold doF
    rw [if_pos (h t (by simp)), doF_ok w f g ts _ (fun s hs => h s (by simp [hs]))]
    rfl
theorem doF_bad (w : Int) (f g : List Seg) : ∀ (ts : List Int) (acc : List Seg), (∃ t ∈ ts, ¬ (oneR w (atF f t) (atF g t)).2 = 0) → doF w f g ts acc = ([], 10)
  | [], acc, h => by obtain ⟨t, ht, _⟩ := h; cases ht
  | t :: ts, acc, ⟨s, hs, he⟩ => by
    unfold doF
    split
    · rename_i h0
      refine doF_bad w f g ts _ ⟨s, ?_, he⟩
      rcases List.mem_cons.1 hs with rfl | hs
      · exact absurd h0 he
      · exact hs
    · rfl
theorem one_v0 (w : Int) : oneR w v0 v0 = (v0, 0) := by
  unfold oneR
  split
  · decide
  · split
    · decide
    · split <;> decide
/-- Either all goes well, and the function is what is made at each time, or at some time it may not be. -/
theorem doR_law (w : Int) (f g : List Seg) (hf : mayF f = true) (hg : mayF g = true) :
    ((∀ t, (oneR w (atF f t) (atF g t)).2 = 0) ∧ (doR w f g).2 = 0 ∧ mayF (doR w f g).1 = true ∧ ∀ t, atF (doR w f g).1 t = (oneR w (atF f t) (atF g t)).1) ∨
    ((∃ t, ¬ (oneR w (atF f t) (atF g t)).2 = 0) ∧ doR w f g = ([], 10)) := by
  obtain ⟨cf, sf⟩ := (mayF_iff f).1 hf
  obtain ⟨cg, sg⟩ := (mayF_iff g).1 hg
  have hts := timesF_up (f.map (·.t) ++ g.map (·.t))
  have hmem : ∀ t, t ∈ timesF (f.map (·.t) ++ g.map (·.t)) ↔ (∃ x ∈ f, x.t = t) ∨ ∃ x ∈ g, x.t = t := fun t => by
    rw [mem_timesF, List.mem_append, List.mem_map, List.mem_map]
  obtain ⟨ts, hts0⟩ : ∃ ts, timesF (f.map (·.t) ++ g.map (·.t)) = ts := ⟨_, rfl⟩
  rw [hts0] at hts
  simp only [hts0] at hmem
  have hdo : doR w f g = doF w f g ts [] := by unfold doR; rw [hf, hg, hts0]; rfl
  -- at any time, as at the last time ahead of it
  have key : ∀ u, (atF f u = v0 ∧ atF g u = v0 ∧ ∀ t ∈ ts, u < t) ∨ ∃ s ∈ ts, s ≤ u ∧ atF f u = atF f s ∧ atF g u = atF g s ∧ ∀ t ∈ ts, t ≤ u → t ≤ s := fun u => by
    rcases lastH_at (fun _ => v0) ts v0 u hts with ⟨_, h⟩ | ⟨s, hs, h1, _, h2⟩
    · exact .inl ⟨atF_early f u (fun x hx => h x.t ((hmem _).2 (.inl ⟨x, hx, rfl⟩))), atF_early g u (fun x hx => h x.t ((hmem _).2 (.inr ⟨x, hx, rfl⟩))), h⟩
    · refine .inr ⟨s, hs, h1, atF_between f s u h1 (fun x hx hc => ?_), atF_between g s u h1 (fun x hx hc => ?_), h2⟩
      · have := h2 x.t ((hmem _).2 (.inl ⟨x, hx, rfl⟩)) hc.2; omega
      · have := h2 x.t ((hmem _).2 (.inr ⟨x, hx, rfl⟩)) hc.2; omega
  by_cases hall : ∀ t ∈ ts, (oneR w (atF f t) (atF g t)).2 = 0
  · left
    have hok := doF_ok w f g ts [] hall
    obtain ⟨d1, d2, d3⟩ := withs_spec (fun t => (oneR w (atF f t) (atF g t)).1) ts [] hts trivial (by simp)
    rw [hdo, hok]
    refine ⟨fun u => ?_, rfl, (mayF_iff _).2 ⟨d1, fun x hx => ?_⟩, fun u => ?_⟩
    · rcases key u with ⟨e1, e2, _⟩ | ⟨s, hs, _, e1, e2, _⟩
      · rw [e1, e2, one_v0]
      · rw [e1, e2]; exact hall s hs
    · rcases d2 x hx with h | ⟨t, ht, rfl⟩
      · cases h
      · have hm := oneR_may w _ _ (atF_may sf t) (atF_may sg t) (hall t ht)
        have hin : inR t = true := by
          rcases (hmem t).1 ht with ⟨y, hy, rfl⟩ | ⟨y, hy, rfl⟩
          · have := sf y hy; unfold inSeg at this; rw [Bool.and_eq_true] at this; exact this.1
          · have := sg y hy; unfold inSeg at this; rw [Bool.and_eq_true] at this; exact this.1
        unfold inSeg; rw [hin, hm]; rfl
    · show atF (withs (fun t => (oneR w (atF f t) (atF g t)).1) ts []) u = _
      rw [d3 u]
      rcases lastH_at (fun t => (oneR w (atF f t) (atF g t)).1) ts (atF [] u) u hts with ⟨e, hn⟩ | ⟨s, hs, h1, h2, h3⟩
      · rw [e]
        rcases key u with ⟨e1, e2, _⟩ | ⟨s, hs, h4, _⟩
        · rw [e1, e2, one_v0]; rfl
        · have := hn s hs; omega
      · rw [h2]
        rcases key u with ⟨_, _, hn⟩ | ⟨s', hs', h4, e1, e2, h5⟩
        · have := hn s hs; omega
        · have a := h3 s' hs' h4
          have b := h5 s hs h1
          have : s = s' := by omega
          subst this
          simp only [e1, e2]
  · right
    have hex : ∃ t ∈ ts, ¬ (oneR w (atF f t) (atF g t)).2 = 0 := by
      rcases Classical.em (∃ t ∈ ts, ¬ (oneR w (atF f t) (atF g t)).2 = 0) with h | h
      · exact h
      · exact absurd (fun t ht => Classical.byContradiction fun hn => h ⟨t, ht, hn⟩) hall
    obtain ⟨t, ht, he⟩ := hex
    exact ⟨⟨t, he⟩, by rw [hdo]; exact doF_bad w f g ts [] ⟨t, ht, he⟩⟩
/-! ### The program's way -/
theorem srt_self {xs : List Seg} (h : (xs.map (·.t)).Pairwise (· < ·)) : sortS (ltB cmpS) xs = xs := by
  refine (sortS_of swoS ?_ (Stb.refl _)).symm
  rw [List.pairwise_map] at h
  exact h.imp (fun {a b} hab => by rw [ltS]; simp; omega)
theorem fold_withs : ∀ (xs acc : List Seg), (xs.map (·.t)).Pairwise (· < ·) → foldB xs acc (lastW acc) = xs.foldl (fun f x => withF f x.t x.v) acc
  | [], acc, _ => rfl
  | x :: xs, acc, h => by
    rw [List.map_cons, List.pairwise_cons] at h
    have hn : nextB x xs = true := by
      cases xs with
      | nil => rfl
      | cons y xs => have := h.1 y.t (by simp); simp [nextB]; omega
    rw [foldB, if_pos hn, List.foldl_cons]
    have e : (putF acc (lastW acc) x).1 = withF acc x.t x.v ∧ (putF acc (lastW acc) x).2 = lastW (withF acc x.t x.v) := by
      unfold putF withF
      split
      · exact ⟨rfl, rfl⟩
      · exact ⟨by simp, (lastW_snoc _ _).symm⟩
    rw [e.1, e.2]
    exact fold_withs xs _ h.2
theorem rawJ_ok (jf : Vec → Vec → Vec × Int) : ∀ (L : List (Int × Vec × Vec)) (acc : List Seg), (∀ it ∈ L, (jf it.2.1 it.2.2).2 = 0) → rawJ jf L acc = (acc ++ L.map (fun it => ⟨it.1, (jf it.2.1 it.2.2).1⟩), 0)
  | [], acc, _ => by simp [rawJ]
  | it :: L, acc, h => by
    unfold rawJ
    rw [if_pos (h it (by simp)), rawJ_ok jf L _ (fun x hx => h x (by simp [hx]))]
    simp
theorem rawJ_bad (jf : Vec → Vec → Vec × Int) (he : ∀ a b, (jf a b).2 = 0 ∨ (jf a b).2 = 10) : ∀ (L : List (Int × Vec × Vec)) (acc : List Seg), (∃ it ∈ L, ¬ (jf it.2.1 it.2.2).2 = 0) → rawJ jf L acc = ([], 10)
  | [], acc, h => by obtain ⟨t, ht, _⟩ := h; cases ht
  | it :: L, acc, ⟨s, hs, h0⟩ => by
    unfold rawJ
    split
    · rename_i h1
      refine rawJ_bad jf he L _ ⟨s, ?_, h0⟩
      rcases List.mem_cons.1 hs with rfl | hs
      · exact absurd h1 h0
      · exact hs
    · rename_i h1
      rw [(he _ _).resolve_left h1]
/-- What the program makes of two functions is what the document says. -/
theorem made_do (w : Int) (jf : Vec → Vec → Vec × Int) (hj : ∀ a b, mayV a = true → mayV b = true → jf a b = oneR w a b) (he : ∀ a b, (jf a b).2 = 0 ∨ (jf a b).2 = 10) (f g : List Seg) : madeF jf f g = doR w f g := by
  by_cases hfg : (mayF f && mayF g) = true
  case neg =>
    unfold madeF doR
    rw [if_neg hfg, if_neg hfg]
  rw [Bool.and_eq_true] at hfg
  obtain ⟨hf, hg⟩ := hfg
  obtain ⟨cf, sf⟩ := (mayF_iff f).1 hf
  obtain ⟨cg, sg⟩ := (mayF_iff g).1 hg
  have hb := both_times f g cf.up cg.up
  have hts := timesF_up (f.map (·.t) ++ g.map (·.t))
  have hmem : ∀ t, t ∈ timesF (f.map (·.t) ++ g.map (·.t)) → (∃ x ∈ f, x.t = t) ∨ ∃ x ∈ g, x.t = t := fun t => by
    rw [mem_timesF, List.mem_append, List.mem_map, List.mem_map]; exact id
  obtain ⟨ts, hts0⟩ : ∃ ts, timesF (f.map (·.t) ++ g.map (·.t)) = ts := ⟨_, rfl⟩
  rw [hts0] at hb hts
  simp only [hts0] at hmem
  have hjt : ∀ t, jf (atF f t) (atF g t) = oneR w (atF f t) (atF g t) := fun t => hj _ _ (atF_may sf t) (atF_may sg t)
  have hdo : doR w f g = doF w f g ts [] := by unfold doR; rw [hf, hg, hts0]; rfl
  have hmade : madeF jf f g = if (rawJ jf (bothF f g v0 v0) []).2 = 0 then ofF (rawJ jf (bothF f g v0 v0) []).1 else ([], (rawJ jf (bothF f g v0 v0) []).2) := by unfold madeF; rw [hf, hg]; rfl
  rw [hdo, hmade, hb]
  by_cases hall : ∀ t ∈ ts, (oneR w (atF f t) (atF g t)).2 = 0
  · rw [rawJ_ok jf _ [] (fun it hit => by obtain ⟨t, ht, rfl⟩ := List.mem_map.1 hit; rw [show (jf (atF f t) (atF g t)).2 = _ from by rw [hjt]]; exact hall t ht), if_pos rfl, doF_ok w f g ts [] hall]
    simp only [List.nil_append, List.map_map]
    have e : (ts.map ((fun it : Int × Vec × Vec => (⟨it.1, (jf it.2.1 it.2.2).1⟩ : Seg)) ∘ fun t => (t, atF f t, atF g t))) = ts.map (fun t => (⟨t, (oneR w (atF f t) (atF g t)).1⟩ : Seg)) := List.map_congr_left (fun t _ => by simp [hjt])
    rw [e]
    have hup : ((ts.map (fun t => (⟨t, (oneR w (atF f t) (atF g t)).1⟩ : Seg))).map (·.t)).Pairwise (· < ·) := by
      rw [List.map_map]
      have : ((fun x : Seg => x.t) ∘ fun t => (⟨t, (oneR w (atF f t) (atF g t)).1⟩ : Seg)) = id := rfl
      rw [this, List.map_id]; exact hts
    have hin : (ts.map (fun t => (⟨t, (oneR w (atF f t) (atF g t)).1⟩ : Seg))).all inSeg = true := by
      rw [List.all_eq_true]
      intro x hx
      obtain ⟨t, ht, rfl⟩ := List.mem_map.1 hx
      have hm := oneR_may w _ _ (atF_may sf t) (atF_may sg t) (hall t ht)
      have hr : inR t = true := by
        rcases hmem t ht with ⟨y, hy, rfl⟩ | ⟨y, hy, rfl⟩
        · have := sf y hy; unfold inSeg at this; rw [Bool.and_eq_true] at this; exact this.1
        · have := sg y hy; unfold inSeg at this; rw [Bool.and_eq_true] at this; exact this.1
      unfold inSeg; rw [hr, hm]; rfl
    unfold ofF
    rw [if_pos hin]
    have hfold : foldF (ts.map (fun t => (⟨t, (oneR w (atF f t) (atF g t)).1⟩ : Seg))) = withs (fun t => (oneR w (atF f t) (atF g t)).1) ts [] := by
      unfold foldF
      rw [srt_self hup]
      have := fold_withs (ts.map (fun t => (⟨t, (oneR w (atF f t) (atF g t)).1⟩ : Seg))) [] hup
      rw [show lastW [] = v0 from rfl] at this
      rw [this, List.foldl_map]; rfl
    rw [hfold]
  · have hex : ∃ t ∈ ts, ¬ (oneR w (atF f t) (atF g t)).2 = 0 := by
      rcases Classical.em (∃ t ∈ ts, ¬ (oneR w (atF f t) (atF g t)).2 = 0) with h | h
      · exact h
      · exact absurd (fun t ht => Classical.byContradiction fun hn => h ⟨t, ht, hn⟩) hall
    obtain ⟨t, ht, he0⟩ := hex
    rw [rawJ_bad jf he _ [] ⟨(t, atF f t, atF g t), List.mem_map.2 ⟨t, ht, rfl⟩, by simp only; rw [hjt]; exact he0⟩, if_neg (by decide), doF_bad w f g ts [] ⟨t, ht, he0⟩]
end Go.Proofs.Ytddbnncimggogaa.V
end
section
set_option linter.unusedSimpArgs false
set_option linter.unusedVariables false
/- calc.LE, Add are the document's; what being at most says: plain. -/
namespace Go.Proofs.Ytddbnncimggogaa.V
open Go Go.Proofs Go.Proofs.Ytddbnncimggogaa.SP
theorem sub_do (f g : List Seg) : madeF subV f g = doR 1 f g := made_do 1 subV sub_one (fun a b => by unfold subV told1; split <;> simp) f g
theorem told1_err (x : Vec) (l : List Vec) : (told1 x l).2 = 0 ∨ (told1 x l).2 = 10 := by unfold told1; split <;> simp
theorem addF_err : ∀ (l : List Vec) (s : Vec), (addF l s).2 = 0 ∨ (addF l s).2 = 10
  | [], s => .inl rfl
  | v :: r, s => by
    unfold addF
    simp only
    split
    · exact addF_err r _
    · rename_i h; exact .inr ((told1_err _ _).resolve_left h)
theorem add2_err (a b : Vec) : (add2 a b).2 = 0 ∨ (add2 a b).2 = 10 := addF_err _ _
theorem add_do (f g : List Seg) : madeF add2 f g = doR 0 f g := made_do 0 add2 add_one add2_err f g
theorem min_do (f g : List Seg) : madeF (fun a b => (minV a b, 0)) f g = doR 2 f g := made_do 2 _ (fun a b _ _ => by unfold oneR; simp) (fun a b => .inl rfl) f g
theorem addG_sum : ∀ (ls : List (List Seg)) (acc : List Seg), addG ls acc = sumF ls acc
  | [], acc => rfl
  | x :: ls, acc => by unfold addG sumF; rw [add_do, addG_sum ls]
theorem addC_sum (ls : List (List Seg)) : addC ls = sumR ls := by unfold addC sumR; rw [addG_sum]
/-! ### Being at most -/
theorem find_insR_no (p : Int → Bool) (x : Int) (hp : p x = false) : ∀ (l : List Int), (insR l x).find? p = l.find? p
  | [] => by simp [insR, hp]
  | y :: l => by
    unfold insR
    split
    · rw [List.find?_cons, List.find?_cons, find_insR_no p x hp l]
    · split
      · rfl
      · rw [List.find?_cons, hp]
theorem find_insR_yes (p : Int → Bool) (x : Int) (hp : p x = true) (hl : ∀ y, y < x → p y = false) : ∀ (l : List Int), (insR l x).find? p = some x
  | [] => by simp [insR, hp]
  | y :: l => by
    unfold insR
    split
    · rename_i h; rw [List.find?_cons, hl y h]; exact find_insR_yes p x hp hl l
    · split
      · rename_i h; rw [List.find?_cons, h, hp]
      · rw [List.find?_cons, hp]
theorem le_do (f g : List Seg) (a : Int) : leC f g a = leR f g a := by
  by_cases hfg : (mayF f && mayF g) = true
  case neg => unfold leC leR; rw [if_neg hfg, if_neg hfg]
  have h2 := hfg
  rw [Bool.and_eq_true] at h2
  obtain ⟨cf, _⟩ := (mayF_iff f).1 h2.1
  obtain ⟨cg, _⟩ := (mayF_iff g).1 h2.2
  unfold leC leR
  rw [if_pos hfg, if_pos hfg, both_times f g cf.up cg.up]
  have hts := timesF_up (f.map (·.t) ++ g.map (·.t))
  obtain ⟨ts, hts0⟩ : ∃ ts, timesF (f.map (·.t) ++ g.map (·.t)) = ts := ⟨_, rfl⟩
  rw [hts0] at hts ⊢
  rw [timesF_snoc, timesF_self hts, insT_R]
  have early : ∀ y, y < a → leHit f g a y = false := fun y hy => by unfold leHit; rw [decide_eq_false (by omega)]; rfl
  cases hle : leV (atF f a) (atF g a) with
  | false =>
    have hp : leHit f g a a = true := by unfold leHit; rw [hle, decide_eq_true (Int.le_refl a)]; rfl
    unfold leFind
    rw [find_insR_yes _ a hp early]; rfl
  | true =>
    have hp : leHit f g a a = false := by unfold leHit; rw [hle]; simp
    unfold leFind leFindI
    rw [find_insR_no _ a hp, if_pos rfl, List.find?_map]
    have e : (hitI a ∘ fun t => (t, atF f t, atF g t)) = leHit f g a := rfl
    rw [e]
    cases ts.find? (leHit f g a) <;> rfl
end Go.Proofs.Ytddbnncimggogaa.V
end
section
set_option linter.unusedSimpArgs false
set_option linter.unusedVariables false
/- The compiled functions of the package liverylaw03 (printed by Print.lean of this work). -/
namespace Go.Proofs.Ytddbnncimggogaa.V
open Go Go.Proofs
def v_liverylaw03_CalcSums : VFn := ⟨.seq (.reg [⟨some 4, .mov (.c (.bool false)), none, [], []⟩])
(.seq (.seq (.reg [⟨some 17, .mov (.t 0), none, [], []⟩,
  ⟨some 18, .len (.t 17), none, [0], []⟩,
  ⟨some 19, .bin .gtr (.t 18) (.c (.int .i64 8)), none, [1], []⟩,
  ⟨some 20, .mov (.t 19), none, [2], []⟩,
  ⟨some 21, .mov (.t 1), some (20, false), [3], []⟩,
  ⟨some 22, .len (.t 21), some (20, false), [4, 3], []⟩,
  ⟨some 23, .bin .gtr (.t 22) (.c (.int .i64 40)), some (20, false), [5, 3], []⟩,
  ⟨some 24, .pick (.t 20) (.c (.bool true)) (.t 23), none, [3, 6], []⟩])
(.cond (.t 24)
  (.seq (.reg [⟨some 25, .call 25 [], none, [], []⟩,
    ⟨some 4, .mov (.t 25), none, [0, 0, 0], []⟩])
  (.ret))
  (.skip)))
(.seq (.seq (.reg [⟨some 5, .mov (.c (.int .i64 0)), none, [], []⟩])
(.block 0
  (.loop
    (.seq (.seq (.reg [⟨some 26, .mov (.t 5), none, [], []⟩,
      ⟨some 27, .mov (.t 0), none, [], []⟩,
      ⟨some 28, .len (.t 27), none, [1], []⟩,
      ⟨some 29, .bin .lss (.t 26) (.t 28), none, [0, 2], []⟩])
    (.cond (.t 29)
      (.skip)
      (.exit 0)))
    (.seq (.block 1
      (.seq (.seq (.reg [⟨some 32, .mov (.t 0), none, [], []⟩,
        ⟨some 33, .mov (.t 5), none, [], []⟩,
        ⟨some 34, .iad 1 (.t 32) (.t 33), none, [0, 1], []⟩,
        ⟨some 35, .load 1 false (.t 34), none, [2], []⟩,
        ⟨some 36, .len (.t 35), none, [3], []⟩,
        ⟨some 37, .bin .gtr (.t 36) (.c (.int .i64 30)), none, [4], []⟩,
        ⟨some 38, .mov (.t 37), none, [5], []⟩,
        ⟨some 39, .mov (.t 0), some (38, false), [6], []⟩,
        ⟨some 40, .mov (.t 5), some (38, false), [6], []⟩,
        ⟨some 41, .iad 1 (.t 39) (.t 40), some (38, false), [7, 8, 6], []⟩,
        ⟨some 42, .load 1 false (.t 41), some (38, false), [9, 6], []⟩,
        ⟨some 43, .call 30 [(.t 42)], some (38, false), [10, 6, 6], []⟩,
        ⟨some 44, .un .not (.t 43), some (38, false), [11, 6], []⟩,
        ⟨some 45, .pick (.t 38) (.c (.bool true)) (.t 44), none, [6, 12], []⟩])
      (.cond (.t 45)
        (.seq (.reg [⟨some 46, .call 25 [], none, [], []⟩,
          ⟨some 4, .mov (.t 46), none, [0, 0, 0], []⟩])
        (.ret))
        (.skip)))
      (.seq (.reg [⟨some 6, .mov (.c (.int .i64 0)), none, [], []⟩])
      (.block 2
        (.loop
          (.seq (.seq (.reg [⟨some 47, .mov (.t 6), none, [], []⟩,
            ⟨some 48, .mov (.t 0), none, [], []⟩,
            ⟨some 49, .mov (.t 5), none, [], []⟩,
            ⟨some 50, .iad 1 (.t 48) (.t 49), none, [1, 2], []⟩,
            ⟨some 51, .load 1 false (.t 50), none, [3], []⟩,
            ⟨some 52, .len (.t 51), none, [4], []⟩,
            ⟨some 53, .bin .lss (.t 47) (.t 52), none, [0, 5], []⟩])
          (.cond (.t 53)
            (.skip)
            (.exit 2)))
          (.seq (.block 3
            (.seq (.reg [⟨some 56, .mov (.t 0), none, [], []⟩,
              ⟨some 57, .mov (.t 5), none, [], []⟩,
              ⟨some 58, .iad 1 (.t 56) (.t 57), none, [0, 1], []⟩,
              ⟨some 59, .load 1 false (.t 58), none, [2], []⟩,
              ⟨some 60, .mov (.t 6), none, [], []⟩,
              ⟨some 61, .iad 3 (.t 59) (.t 60), none, [3, 4], []⟩,
              ⟨some 62, .fad 1 (.t 61), none, [5], []⟩,
              ⟨some 63, .load 2 true (.t 62), none, [6], []⟩,
              ⟨some 7, .alloc [(.int .i64 0), (.int .i64 0)], none, [], []⟩,
              ⟨none, .store 2 (.t 7) (.t 63), none, [8, 7, 0, 1, 2, 3, 4, 5, 6, 7, 8], []⟩])
            (.seq (.reg [⟨some 64, .fad 0 (.t 7), none, [], []⟩,
              ⟨some 65, .load 1 false (.t 64), none, [0], []⟩,
              ⟨some 66, .fad 0 (.t 7), none, [], []⟩,
              ⟨some 67, .load 1 false (.t 66), none, [2], []⟩,
              ⟨some 68, .un .neg (.t 67), none, [3], []⟩,
              ⟨some 69, .fad 1 (.t 7), none, [], []⟩,
              ⟨some 70, .load 1 false (.t 69), none, [5], []⟩,
              ⟨some 71, .fad 1 (.t 7), none, [], []⟩,
              ⟨some 72, .load 1 false (.t 71), none, [7], []⟩,
              ⟨some 73, .un .neg (.t 72), none, [8], []⟩,
              ⟨some 74, .mnx false (.t 65) [(.t 68), (.t 70), (.t 73)], none, [1, 4, 6, 9], []⟩,
              ⟨some 75, .bin .gtr (.t 74) (.c (.int .i64 1099511627776)), none, [10], []⟩])
            (.cond (.t 75)
              (.seq (.reg [⟨some 76, .call 25 [], none, [], []⟩,
                ⟨some 4, .mov (.t 76), none, [0, 0, 0], []⟩])
              (.ret))
              (.skip)))))
          (.reg [⟨some 54, .mov (.t 6), none, [], []⟩,
            ⟨some 55, .bin .add (.t 54) (.c (.int .i64 1)), none, [0], []⟩,
            ⟨some 6, .mov (.t 55), none, [1, 0, 1], []⟩]))))))))
    (.reg [⟨some 30, .mov (.t 5), none, [], []⟩,
      ⟨some 31, .bin .add (.t 30) (.c (.int .i64 1)), none, [0], []⟩,
      ⟨some 5, .mov (.t 31), none, [1, 0, 1], []⟩]))))))
(.seq (.reg [⟨some 8, .mov (.c (.sl [] .full)), none, [], []⟩])
(.seq (.seq (.reg [⟨some 77, .mov (.t 0), none, [], []⟩,
  ⟨some 78, .len (.t 77), none, [0], []⟩,
  ⟨some 79, .bin .sub (.t 78) (.c (.int .i64 1)), none, [1], []⟩,
  ⟨some 9, .mov (.t 79), none, [2, 0, 1, 2], []⟩])
(.block 4
  (.loop
    (.seq (.seq (.reg [⟨some 80, .mov (.t 9), none, [], []⟩,
      ⟨some 81, .bin .geq (.t 80) (.c (.int .i64 0)), none, [0], []⟩])
    (.cond (.t 81)
      (.skip)
      (.exit 4)))
    (.seq (.block 5
      (.reg [⟨some 84, .mov (.t 8), none, [], []⟩,
        ⟨some 85, .mov (.t 0), none, [], []⟩,
        ⟨some 86, .mov (.t 9), none, [], []⟩,
        ⟨some 87, .iad 1 (.t 85) (.t 86), none, [1, 2], []⟩,
        ⟨some 88, .load 1 false (.t 87), none, [3], []⟩,
        ⟨some 89, .bsl 1 [(.t 88)], none, [4], []⟩,
        ⟨some 90, .app 1 24 (.t 84) (.t 89), none, [0, 5], []⟩,
        ⟨some 8, .mov (.t 90), none, [6, 6, 0, 1, 2, 3, 4, 5, 6], []⟩]))
    (.reg [⟨some 82, .mov (.t 9), none, [], []⟩,
      ⟨some 83, .bin .sub (.t 82) (.c (.int .i64 1)), none, [0], []⟩,
      ⟨some 9, .mov (.t 83), none, [1, 0, 1], []⟩]))))))
(.seq (.reg [⟨some 92, .mov (.t 0), none, [], []⟩,
  ⟨some 93, .call 31 [(.t 92)], none, [0], []⟩,
  ⟨some 91, .mov (.t 93), none, [1], []⟩,
  ⟨some 94, .ext (.t 91) 0, none, [2], []⟩,
  ⟨some 95, .ext (.t 91) 1, none, [2], []⟩,
  ⟨some 10, .mov (.t 94), none, [3, 1, 0, 1, 2, 3], []⟩,
  ⟨some 11, .mov (.t 95), none, [4, 5, 0, 1, 2, 3, 4, 5], []⟩])
(.seq (.reg [⟨some 97, .mov (.t 8), none, [], []⟩,
  ⟨some 98, .call 31 [(.t 97)], none, [0], []⟩,
  ⟨some 96, .mov (.t 98), none, [1], []⟩,
  ⟨some 99, .ext (.t 96) 0, none, [2], []⟩,
  ⟨some 100, .ext (.t 96) 1, none, [2], []⟩,
  ⟨some 12, .mov (.t 99), none, [3, 1, 0, 1, 2, 3], []⟩,
  ⟨some 13, .mov (.t 100), none, [4, 5, 0, 1, 2, 3, 4, 5], []⟩])
(.seq (.seq (.reg [⟨some 101, .mov (.t 11), none, [], []⟩,
  ⟨some 102, .bin .neq (.t 101) (.c (.int .i64 0)), none, [0], []⟩,
  ⟨some 103, .mov (.t 102), none, [1], []⟩,
  ⟨some 104, .mov (.t 13), some (103, false), [2], []⟩,
  ⟨some 105, .bin .neq (.t 104) (.c (.int .i64 0)), some (103, false), [3, 2], []⟩,
  ⟨some 106, .pick (.t 103) (.c (.bool true)) (.t 105), none, [2, 4], []⟩,
  ⟨some 107, .mov (.t 106), none, [5, 2], []⟩,
  ⟨some 108, .mov (.t 10), some (107, false), [6], []⟩,
  ⟨some 109, .mov (.t 12), some (107, false), [6], []⟩,
  ⟨some 110, .call 21 [(.t 108), (.t 109)], some (107, false), [7, 8, 6, 6], []⟩,
  ⟨some 111, .un .not (.t 110), some (107, false), [9, 6], []⟩,
  ⟨some 112, .pick (.t 107) (.c (.bool true)) (.t 111), none, [6, 10], []⟩,
  ⟨some 113, .mov (.t 112), none, [11, 9], []⟩,
  ⟨some 114, .mov (.t 10), some (113, false), [12], []⟩,
  ⟨some 115, .call 30 [(.t 114)], some (113, false), [13, 12, 12], []⟩,
  ⟨some 116, .un .not (.t 115), some (113, false), [14, 12], []⟩,
  ⟨some 117, .pick (.t 113) (.c (.bool true)) (.t 116), none, [12, 15], []⟩])
(.cond (.t 117)
  (.seq (.reg [⟨some 4, .mov (.c (.bool false)), none, [], []⟩])
  (.ret))
  (.skip)))
(.seq (.seq (.reg [⟨some 14, .mov (.c (.int .i64 0)), none, [], []⟩])
(.block 6
  (.loop
    (.seq (.seq (.reg [⟨some 118, .mov (.t 14), none, [], []⟩,
      ⟨some 119, .mov (.t 1), none, [], []⟩,
      ⟨some 120, .len (.t 119), none, [1], []⟩,
      ⟨some 121, .bin .lss (.t 118) (.t 120), none, [0, 2], []⟩])
    (.cond (.t 121)
      (.skip)
      (.exit 6)))
    (.seq (.block 7
      (.seq (.reg [⟨some 124, .build [(.int .i64 0), (.int .i64 0)] [], none, [], []⟩,
        ⟨some 15, .alloc [(.int .i64 0), (.int .i64 0)], none, [], []⟩,
        ⟨none, .store 2 (.t 15) (.t 124), none, [1, 0, 0, 1], []⟩])
      (.seq (.seq (.reg [⟨some 16, .mov (.c (.int .i64 0)), none, [], []⟩])
      (.block 8
        (.loop
          (.seq (.seq (.reg [⟨some 125, .mov (.t 16), none, [], []⟩,
            ⟨some 126, .mov (.t 0), none, [], []⟩,
            ⟨some 127, .len (.t 126), none, [1], []⟩,
            ⟨some 128, .bin .lss (.t 125) (.t 127), none, [0, 2], []⟩])
          (.cond (.t 128)
            (.skip)
            (.exit 8)))
          (.seq (.block 9
            (.dreg [⟨some 132, .load 2 true (.t 15), none, [], []⟩,
              ⟨some 133, .mov (.t 0), none, [], []⟩,
              ⟨some 134, .mov (.t 16), none, [], []⟩,
              ⟨some 135, .iad 1 (.t 133) (.t 134), none, [1, 2], []⟩,
              ⟨some 136, .load 1 false (.t 135), none, [3], []⟩,
              ⟨some 137, .mov (.t 1), none, [], []⟩,
              ⟨some 138, .mov (.t 14), none, [], []⟩,
              ⟨some 139, .iad 1 (.t 137) (.t 138), none, [5, 6], []⟩,
              ⟨some 140, .load 1 false (.t 139), none, [7], []⟩,
              ⟨some 141, .call 28 [(.t 136), (.t 140)], none, [4, 8], []⟩,
              ⟨some 142, .call 29 [(.t 132), (.t 141)], none, [0, 9, 9], [(0, 0)]⟩,
              ⟨some 131, .mov (.t 142), none, [10], []⟩,
              ⟨some 143, .ext (.t 131) 0, none, [11], []⟩,
              ⟨some 144, .ext (.t 131) 1, none, [11], []⟩,
              ⟨none, .store 2 (.t 15) (.t 143), none, [12, 10, 0, 1, 2, 3, 4, 5, 6, 7, 8, 9, 10, 11, 12], []⟩]))
          (.reg [⟨some 129, .mov (.t 16), none, [], []⟩,
            ⟨some 130, .bin .add (.t 129) (.c (.int .i64 1)), none, [0], []⟩,
            ⟨some 16, .mov (.t 130), none, [1, 0, 1], []⟩]))))))
      (.seq (.dreg [⟨some 145, .mov (.t 10), none, [], []⟩,
        ⟨some 146, .mov (.t 1), none, [], []⟩,
        ⟨some 147, .mov (.t 14), none, [], []⟩,
        ⟨some 148, .iad 1 (.t 146) (.t 147), none, [1, 2], []⟩,
        ⟨some 149, .load 1 false (.t 148), none, [3], []⟩,
        ⟨some 150, .call 28 [(.t 145), (.t 149)], none, [0, 4], []⟩,
        ⟨some 151, .load 2 true (.t 15), none, [], []⟩,
        ⟨some 152, .eqs true [0, 0] (.t 150) (.t 151), none, [5, 6], []⟩])
      (.cond (.t 152)
        (.seq (.reg [⟨some 4, .mov (.c (.bool false)), none, [], []⟩])
        (.ret))
        (.skip))))))
    (.reg [⟨some 122, .mov (.t 14), none, [], []⟩,
      ⟨some 123, .bin .add (.t 122) (.c (.int .i64 1)), none, [0], []⟩,
      ⟨some 14, .mov (.t 123), none, [1, 0, 1], []⟩]))))))
(.seq (.reg [⟨some 153, .call 25 [], none, [], []⟩,
  ⟨some 4, .mov (.t 153), none, [0, 0, 0], []⟩])
(.ret)))))))))),
[.t 4], 154⟩
theorem v_liverylaw03_CalcSums_ok : compF Try.prog 7 = some v_liverylaw03_CalcSums := by kernel_rfl
def v_liverylaw03_head : VFn := ⟨.seq (.reg [⟨some 0, .mov (.c (.bool false)), none, [], []⟩])
(.seq (.reg [⟨some 21, .call 62 [(.c (.int .i64 2)), (.c (.int .i64 3)), (.c (.int .i64 1))], none, [], []⟩,
  ⟨some 22, .call 62 [(.c (.int .i64 8)), (.c (.int .i64 0)), (.c (.int .i64 0))], none, [0], []⟩,
  ⟨some 23, .bsl 3 [(.t 21), (.t 22)], none, [0, 1], []⟩,
  ⟨some 24, .call 62 [(.c (.int .i64 5)), (.c (.int .i64 1)), (.c (.int .i64 1))], none, [1], []⟩,
  ⟨some 25, .call 62 [(.c (.int .i64 9)), (.c (.int .i64 0)), (.c (.int .i64 0))], none, [3], []⟩,
  ⟨some 26, .bsl 3 [(.t 24), (.t 25)], none, [3, 4], []⟩,
  ⟨some 1, .mov (.t 23), none, [2, 4, 0, 1, 2], []⟩,
  ⟨some 2, .mov (.t 26), none, [5, 6, 0, 1, 2, 3, 4, 5, 6], []⟩])
(.seq (.reg [⟨some 28, .mov (.t 1), none, [], []⟩,
  ⟨some 29, .mov (.t 2), none, [], []⟩,
  ⟨some 30, .bsl 1 [(.t 28), (.t 29)], none, [0, 1], []⟩,
  ⟨some 31, .call 31 [(.t 30)], none, [2], []⟩,
  ⟨some 27, .mov (.t 31), none, [3], []⟩,
  ⟨some 32, .ext (.t 27) 0, none, [4], []⟩,
  ⟨some 33, .ext (.t 27) 1, none, [4], []⟩,
  ⟨some 3, .mov (.t 32), none, [5, 3, 0, 1, 2, 3, 4, 5], []⟩,
  ⟨some 4, .mov (.t 33), none, [6, 7, 0, 1, 2, 3, 4, 5, 6, 7], []⟩])
(.seq (.reg [⟨some 35, .mov (.t 1), none, [], []⟩,
  ⟨some 36, .mov (.t 1), none, [], []⟩,
  ⟨some 37, .call 33 [(.t 35), (.t 36)], none, [0, 1], []⟩,
  ⟨some 34, .mov (.t 37), none, [2], []⟩,
  ⟨some 38, .ext (.t 34) 0, none, [3], []⟩,
  ⟨some 39, .ext (.t 34) 1, none, [3], []⟩,
  ⟨some 5, .mov (.t 38), none, [4, 2, 0, 1, 2, 3, 4], []⟩,
  ⟨some 6, .mov (.t 39), none, [5, 6, 0, 1, 2, 3, 4, 5, 6], []⟩])
(.seq (.reg [⟨some 41, .mov (.t 1), none, [], []⟩,
  ⟨some 42, .mov (.t 2), none, [], []⟩,
  ⟨some 43, .call 35 [(.t 41), (.t 42)], none, [0, 1], []⟩,
  ⟨some 40, .mov (.t 43), none, [2], []⟩,
  ⟨some 44, .ext (.t 40) 0, none, [3], []⟩,
  ⟨some 45, .ext (.t 40) 1, none, [3], []⟩,
  ⟨some 7, .mov (.t 44), none, [4, 2, 0, 1, 2, 3, 4], []⟩,
  ⟨some 8, .mov (.t 45), none, [5, 6, 0, 1, 2, 3, 4, 5, 6], []⟩])
(.seq (.reg [⟨some 47, .mov (.t 1), none, [], []⟩,
  ⟨some 48, .build [(.int .i64 0), (.int .i64 0)] [(0, 1, (.c (.int .i64 (-3)))), (1, 1, (.c (.int .i64 (-1))))], none, [], []⟩,
  ⟨some 49, .call 26 [(.t 47), (.c (.int .i64 4)), (.c (.int .i64 8)), (.t 48)], none, [0, 1], []⟩,
  ⟨some 46, .mov (.t 49), none, [2], []⟩,
  ⟨some 50, .ext (.t 46) 0, none, [3], []⟩,
  ⟨some 51, .ext (.t 46) 1, none, [3], []⟩,
  ⟨some 9, .mov (.t 50), none, [4, 2, 0, 1, 2, 3, 4], []⟩,
  ⟨some 10, .mov (.t 51), none, [5, 6, 0, 1, 2, 3, 4, 5, 6], []⟩])
(.seq (.reg [⟨some 53, .mov (.t 2), none, [], []⟩,
  ⟨some 54, .mov (.t 1), none, [], []⟩,
  ⟨some 55, .call 37 [(.t 53), (.t 54), (.c (.int .i64 0))], none, [0, 1], []⟩,
  ⟨some 52, .mov (.t 55), none, [2], []⟩,
  ⟨some 56, .ext (.t 52) 0, none, [3], []⟩,
  ⟨some 57, .ext (.t 52) 1, none, [3], []⟩,
  ⟨some 58, .ext (.t 52) 2, none, [3], []⟩,
  ⟨some 11, .mov (.t 56), none, [4, 2, 0, 1, 2, 3, 4], []⟩,
  ⟨some 12, .mov (.t 57), none, [5, 7, 0, 1, 2, 3, 4, 5, 7], []⟩,
  ⟨some 13, .mov (.t 58), none, [6, 8, 0, 1, 2, 3, 4, 5, 6, 7, 8], []⟩])
(.seq (.reg [⟨some 60, .mov (.t 2), none, [], []⟩,
  ⟨some 61, .mov (.t 1), none, [], []⟩,
  ⟨some 62, .call 37 [(.t 60), (.t 61), (.c (.int .i64 9))], none, [0, 1], []⟩,
  ⟨some 59, .mov (.t 62), none, [2], []⟩,
  ⟨some 63, .ext (.t 59) 0, none, [3], []⟩,
  ⟨some 64, .ext (.t 59) 1, none, [3], []⟩,
  ⟨some 65, .ext (.t 59) 2, none, [3], []⟩,
  ⟨some 14, .mov (.t 63), none, [4, 2, 0, 1, 2, 3, 4], []⟩,
  ⟨some 15, .mov (.t 64), none, [5, 7, 0, 1, 2, 3, 4, 5, 7], []⟩,
  ⟨some 16, .mov (.t 65), none, [6, 8, 0, 1, 2, 3, 4, 5, 6, 7, 8], []⟩])
(.seq (.reg [⟨some 67, .mov (.t 1), none, [], []⟩,
  ⟨some 68, .build [(.int .i64 0), (.int .i64 0)] [], none, [], []⟩,
  ⟨some 69, .call 26 [(.t 67), (.c (.int .i64 4)), (.c (.int .i64 3)), (.t 68)], none, [0, 1], []⟩,
  ⟨some 66, .mov (.t 69), none, [2], []⟩,
  ⟨some 70, .ext (.t 66) 0, none, [3], []⟩,
  ⟨some 71, .ext (.t 66) 1, none, [3], []⟩,
  ⟨some 17, .mov (.t 70), none, [4, 2, 0, 1, 2, 3, 4], []⟩,
  ⟨some 18, .mov (.t 71), none, [5, 6, 0, 1, 2, 3, 4, 5, 6], []⟩])
(.seq (.reg [⟨some 73, .mov (.t 2), none, [], []⟩,
  ⟨some 74, .call 62 [(.c (.int .i64 2)), (.c (.int .i64 0)), (.c (.int .i64 0))], none, [], []⟩,
  ⟨some 75, .bsl 3 [(.t 74)], none, [1], []⟩,
  ⟨some 76, .bsl 1 [(.t 73), (.t 75)], none, [0, 2], []⟩,
  ⟨some 77, .call 31 [(.t 76)], none, [3, 1], []⟩,
  ⟨some 72, .mov (.t 77), none, [4], []⟩,
  ⟨some 78, .ext (.t 72) 0, none, [5], []⟩,
  ⟨some 79, .ext (.t 72) 1, none, [5], []⟩,
  ⟨some 19, .mov (.t 78), none, [6, 4, 0, 1, 2, 3, 4, 5, 6], []⟩,
  ⟨some 20, .mov (.t 79), none, [7, 8, 0, 1, 2, 3, 4, 5, 6, 7, 8], []⟩])
(.seq (.reg [⟨some 80, .mov (.t 3), none, [], []⟩,
  ⟨some 81, .call 62 [(.c (.int .i64 2)), (.c (.int .i64 3)), (.c (.int .i64 1))], none, [], []⟩,
  ⟨some 82, .call 62 [(.c (.int .i64 5)), (.c (.int .i64 4)), (.c (.int .i64 2))], none, [1], []⟩,
  ⟨some 83, .call 62 [(.c (.int .i64 8)), (.c (.int .i64 1)), (.c (.int .i64 1))], none, [2], []⟩,
  ⟨some 84, .call 62 [(.c (.int .i64 9)), (.c (.int .i64 0)), (.c (.int .i64 0))], none, [3], []⟩,
  ⟨some 85, .bsl 3 [(.t 81), (.t 82), (.t 83), (.t 84)], none, [1, 2, 3, 4], []⟩,
  ⟨some 86, .call 21 [(.t 80), (.t 85)], none, [0, 5, 4], []⟩,
  ⟨some 87, .mov (.t 86), none, [6, 6], []⟩,
  ⟨some 88, .mov (.t 4), some (87, true), [7], []⟩,
  ⟨some 89, .bin .eql (.t 88) (.c (.int .i64 0)), some (87, true), [8, 7], []⟩,
  ⟨some 90, .pick (.t 87) (.t 89) (.c (.bool false)), none, [7, 9], []⟩,
  ⟨some 91, .mov (.t 90), none, [10, 7], []⟩,
  ⟨some 92, .mov (.t 5), some (91, true), [11], []⟩,
  ⟨some 93, .len (.t 92), some (91, true), [12, 11], []⟩,
  ⟨some 94, .bin .eql (.t 93) (.c (.int .i64 0)), some (91, true), [13, 11], []⟩,
  ⟨some 95, .pick (.t 91) (.t 94) (.c (.bool false)), none, [11, 14], []⟩,
  ⟨some 96, .mov (.t 95), none, [15, 11], []⟩,
  ⟨some 97, .mov (.t 6), some (96, true), [16], []⟩,
  ⟨some 98, .bin .eql (.t 97) (.c (.int .i64 0)), some (96, true), [17, 16], []⟩,
  ⟨some 99, .pick (.t 96) (.t 98) (.c (.bool false)), none, [16, 18], []⟩,
  ⟨some 100, .mov (.t 99), none, [19, 16], []⟩,
  ⟨some 101, .mov (.t 7), some (100, true), [20], []⟩,
  ⟨some 102, .call 62 [(.c (.int .i64 5)), (.c (.int .i64 1)), (.c (.int .i64 1))], some (100, true), [20, 20], []⟩,
  ⟨some 103, .call 62 [(.c (.int .i64 8)), (.c (.int .i64 0)), (.c (.int .i64 0))], some (100, true), [22, 20], []⟩,
  ⟨some 104, .bsl 3 [(.t 102), (.t 103)], some (100, true), [22, 23, 20], []⟩,
  ⟨some 105, .call 21 [(.t 101), (.t 104)], some (100, true), [21, 24, 23, 20], []⟩,
  ⟨some 106, .pick (.t 100) (.t 105) (.c (.bool false)), none, [20, 25], []⟩,
  ⟨some 107, .mov (.t 106), none, [26, 25], []⟩,
  ⟨some 108, .mov (.t 8), some (107, true), [27], []⟩,
  ⟨some 109, .bin .eql (.t 108) (.c (.int .i64 0)), some (107, true), [28, 27], []⟩,
  ⟨some 110, .pick (.t 107) (.t 109) (.c (.bool false)), none, [27, 29], []⟩,
  ⟨some 111, .mov (.t 110), none, [30, 27], []⟩,
  ⟨some 112, .mov (.t 9), some (111, true), [31], []⟩,
  ⟨some 113, .call 62 [(.c (.int .i64 2)), (.c (.int .i64 3)), (.c (.int .i64 1))], some (111, true), [31, 31], []⟩,
  ⟨some 114, .call 62 [(.c (.int .i64 4)), (.c (.int .i64 0)), (.c (.int .i64 0))], some (111, true), [33, 31], []⟩,
  ⟨some 115, .bsl 3 [(.t 113), (.t 114)], some (111, true), [33, 34, 31], []⟩,
  ⟨some 116, .call 21 [(.t 112), (.t 115)], some (111, true), [32, 35, 34, 31], []⟩,
  ⟨some 117, .pick (.t 111) (.t 116) (.c (.bool false)), none, [31, 36], []⟩,
  ⟨some 118, .mov (.t 117), none, [37, 36], []⟩,
  ⟨some 119, .mov (.t 10), some (118, true), [38], []⟩,
  ⟨some 120, .bin .eql (.t 119) (.c (.int .i64 0)), some (118, true), [39, 38], []⟩,
  ⟨some 121, .pick (.t 118) (.t 120) (.c (.bool false)), none, [38, 40], []⟩,
  ⟨some 122, .mov (.t 121), none, [41, 38], []⟩,
  ⟨some 123, .mov (.t 11), some (122, true), [42], []⟩,
  ⟨some 124, .bin .eql (.t 123) (.c (.int .i64 8)), some (122, true), [43, 42], []⟩,
  ⟨some 125, .pick (.t 122) (.t 124) (.c (.bool false)), none, [42, 44], []⟩,
  ⟨some 126, .mov (.t 125), none, [45, 42], []⟩,
  ⟨some 127, .mov (.t 12), some (126, true), [46], []⟩,
  ⟨some 128, .un .not (.t 127), some (126, true), [47, 46], []⟩,
  ⟨some 129, .pick (.t 126) (.t 128) (.c (.bool false)), none, [46, 48], []⟩,
  ⟨some 130, .mov (.t 129), none, [49, 46], []⟩,
  ⟨some 131, .mov (.t 13), some (130, true), [50], []⟩,
  ⟨some 132, .bin .eql (.t 131) (.c (.int .i64 0)), some (130, true), [51, 50], []⟩,
  ⟨some 133, .pick (.t 130) (.t 132) (.c (.bool false)), none, [50, 52], []⟩,
  ⟨some 134, .mov (.t 133), none, [53, 50], []⟩,
  ⟨some 135, .mov (.t 14), some (134, true), [54], []⟩,
  ⟨some 136, .bin .eql (.t 135) (.c (.int .i64 0)), some (134, true), [55, 54], []⟩,
  ⟨some 137, .pick (.t 134) (.t 136) (.c (.bool false)), none, [54, 56], []⟩,
  ⟨some 138, .mov (.t 137), none, [57, 54], []⟩,
  ⟨some 139, .mov (.t 15), some (138, true), [58], []⟩,
  ⟨some 140, .pick (.t 138) (.t 139) (.c (.bool false)), none, [58, 59], []⟩,
  ⟨some 141, .mov (.t 140), none, [60, 58], []⟩,
  ⟨some 142, .mov (.t 16), some (141, true), [61], []⟩,
  ⟨some 143, .bin .eql (.t 142) (.c (.int .i64 0)), some (141, true), [62, 61], []⟩,
  ⟨some 144, .pick (.t 141) (.t 143) (.c (.bool false)), none, [61, 63], []⟩,
  ⟨some 145, .mov (.t 144), none, [64, 61], []⟩,
  ⟨some 146, .mov (.t 18), some (145, true), [65], []⟩,
  ⟨some 147, .bin .eql (.t 146) (.c (.int .i64 2)), some (145, true), [66, 65], []⟩,
  ⟨some 148, .pick (.t 145) (.t 147) (.c (.bool false)), none, [65, 67], []⟩,
  ⟨some 149, .mov (.t 148), none, [68, 65], []⟩,
  ⟨some 150, .mov (.t 20), some (149, true), [69], []⟩,
  ⟨some 151, .bin .eql (.t 150) (.c (.int .i64 5)), some (149, true), [70, 69], []⟩,
  ⟨some 152, .pick (.t 149) (.t 151) (.c (.bool false)), none, [69, 71], []⟩,
  ⟨some 0, .mov (.t 152), none, [72, 69, 0, 1, 2, 3, 4, 5, 6, 7, 8, 9, 10, 11, 12, 13, 14, 15, 16, 17, 18, 19, 20, 21, 22, 23, 24, 25, 26, 27, 28, 29, 30, 31, 32, 33, 34, 35, 36, 37, 38, 39, 40, 41, 42, 43, 44, 45, 46, 47, 48, 49, 50, 51, 52, 53, 54, 55, 56, 57, 58, 59, 60, 61, 62, 63, 64, 65, 66, 67, 68, 69, 70, 71, 72], []⟩])
(.ret))))))))))),
[.t 0], 153⟩
theorem v_liverylaw03_head_ok : compF Try.prog 25 = some v_liverylaw03_head := by kernel_rfl
def v_liverylaw03_seg : VFn := ⟨.seq (.reg [⟨some 6, .alloc [(.int .i64 0), (.int .i64 0), (.int .i64 0)], none, [], []⟩])
(.seq (.reg [⟨some 7, .mov (.t 0), none, [], []⟩,
  ⟨some 8, .mov (.t 1), none, [], []⟩,
  ⟨some 9, .mov (.t 2), none, [], []⟩,
  ⟨some 10, .build [(.int .i64 0), (.int .i64 0)] [(0, 1, (.t 8)), (1, 1, (.t 9))], none, [1, 2], []⟩,
  ⟨some 11, .build [(.int .i64 0), (.int .i64 0), (.int .i64 0)] [(0, 1, (.t 7)), (1, 2, (.t 10))], none, [0, 3], []⟩,
  ⟨none, .store 3 (.t 6) (.t 11), none, [4, 0, 1, 2, 3, 4], []⟩])
(.ret)),
[.c 6 3 true], 12⟩
theorem v_liverylaw03_seg_ok : compF Try.prog 62 = some v_liverylaw03_seg := by kernel_rfl
end Go.Proofs.Ytddbnncimggogaa.V
end
section
set_option linter.unusedSimpArgs false
set_option linter.unusedVariables false
/- liverylaw03.seg, great, head. -/
namespace Go.Proofs.Ytddbnncimggogaa.V
open Go Go.Proofs
set_option maxRecDepth 100000
set_option maxHeartbeats 4000000
theorem seg_3 (t m c : Int) : VPure Try.prog 62 [.int .i64 t, .int .i64 m, .int .i64 c] (.agg [.int .i64 t, .int .i64 m, .int .i64 c]) := by
  refine VPure.of v_liverylaw03_seg_ok (Nat.le_of_ble_eq_true rfl) (fun Z st => ?_)
  simp only [v_liverylaw03_seg, ↓vD, vU, VE.ev, VE.evs, retvs, tupOf, grab, vfill, vbsl, eqCells, eqCell, veqs, veqs1, vmnx, AV.isCell, AV.isUndef, Nat.reduceEqDiff, Nat.reduceAdd, Nat.reduceSub, Nat.reduceLeDiff, Nat.reduceLT, reduceIte, reduceCtorEq, Nat.reduceBEq, k_app, k_slc1]
  (repeat' (first | (simp (config := { maxDischargeDepth := 16 }) only [*, vX, Int.reduceLE, Int.reduceLT, Int.reduceGE, Int.reduceGT, Int.reduceBEq, Int.reduceBNe, Int.reduceAdd, Int.reduceSub, Int.reduceMul, Int.reduceNeg, ↓vD, vU, VE.ev, VE.evs, retvs, tupOf, grab, vfill, vbsl, eqCells, eqCell, veqs, veqs1, vmnx, AV.isCell, AV.isUndef, Nat.reduceEqDiff, Nat.reduceAdd, Nat.reduceSub, Nat.reduceLeDiff, Nat.reduceLT, reduceIte, reduceCtorEq, Nat.reduceBEq]) | (simp (disch := first | assumption | omega | exact Seg.len _ | exact Vec.len _ | exact Leg.len _ | exact num_len _ | exact rowA_len _ | exact rowA_len | exact rowT_len _ | exact rowT_len | exact Seg.len | exact Vec.len | exact Leg.len | exact num_len | exact AV.slen _ _ | rfl) only [vP]) | (with_reducible (first | refine gsnd (fun _ => ?_) (fun _ => ?_) | refine csnd (fun _ => ?_) (fun _ => ?_) | refine gsd (fun _ => ?_) (fun _ => ?_) | refine csd (fun _ => ?_) (fun _ => ?_) | refine gsn (fun _ => ?_) (fun _ => ?_) | refine csn (fun _ => ?_) (fun _ => ?_))) | (with_reducible refine gs (fun _ => ?_) (fun _ => ?_)) | (with_reducible refine cs_ (fun _ => ?_) (fun _ => ?_)) | (with_reducible refine objQ_i (fun _ _ => ?_); (repeat (with_reducible refine imp_i (fun _ => ?_)))) | ((try with_reducible refine appK_a ?_); first | (with_reducible refine appD_F (by refine ⟨?_, ?_, ?_, ?_⟩ <;> (first | assumption | omega | exact St.has_add (by assumption) | (simp only [ins_has]; exact St.has_add (by assumption)) | (simp only [ins_has, fresh_ins, kill_ins, add_ins] at *; exact St.has_add (by assumption)) | (simp only [*, ins_has, has_full, St.has_add]; done) | (simp [-List.map_take, -List.map_drop, or_imp, forall_and, Seg.a, Vec.a, Leg.a, num, okEl, cells_agg, cells_int, cells_sl, cells_bool, AV.isCell]; done) | (simp; omega))) (fun _ _ => ?_)) | (with_reducible refine appD_V (by refine ⟨?_, ?_, ?_, ?_, ?_⟩ <;> (first | assumption | omega | exact St.has_add (by assumption) | (simp only [ins_has]; exact St.has_add (by assumption)) | (simp only [ins_has, fresh_ins, kill_ins, add_ins] at *; exact St.has_add (by assumption)) | (simp only [*, ins_has, has_full, St.has_add]; done) | (simp [-List.map_take, -List.map_drop, or_imp, forall_and, Seg.a, Vec.a, Leg.a, num, okEl, cells_agg, cells_int, cells_sl, cells_bool, AV.isCell]; done) | (simp; omega))) (fun _ _ => ?_))) | (with_reducible refine freshQ_i (fun _ _ => ?_)) | (with_reducible refine nilQ_i (fun _ _ => ?_))))
def fA : List Seg := [⟨2, ⟨3, 1⟩⟩, ⟨8, ⟨0, 0⟩⟩]
def gA : List Seg := [⟨5, ⟨1, 1⟩⟩, ⟨9, ⟨0, 0⟩⟩]
def sA : List Seg := [⟨2, ⟨3, 1⟩⟩, ⟨5, ⟨4, 2⟩⟩, ⟨8, ⟨1, 1⟩⟩, ⟨9, ⟨0, 0⟩⟩]
def mA : List Seg := [⟨5, ⟨1, 1⟩⟩, ⟨8, ⟨0, 0⟩⟩]
def rA : List Seg := [⟨2, ⟨3, 1⟩⟩, ⟨4, ⟨0, 0⟩⟩]
def bA : List Seg := [⟨2, ⟨0, 0⟩⟩]
theorem e1 : addC [fA, gA] = (sA, 0) := by rw [addC_sum]; decide
theorem e2 : madeF subV fA fA = ([], 0) := by rw [sub_do]; decide
theorem e3 : madeF (fun a b => (minV a b, 0)) fA gA = (mA, 0) := by rw [min_do]; decide
theorem e4 : rangeC fA 4 8 ⟨-3, -1⟩ = (rA, 0) := by unfold rangeC; rw [add_do]; decide
theorem e5 : leC gA fA 0 = (8, false, 0) := by rw [le_do]; decide
theorem e6 : leC gA fA 9 = (0, true, 0) := by rw [le_do]; decide
theorem e7 : rangeC fA 4 3 ⟨0, 0⟩ = ([], 2) := by unfold rangeC; rw [add_do]; decide
theorem e8 : addC [gA, bA] = ([], 5) := by rw [addC_sum]; decide
theorem head_3 : VPure Try.prog 25 [] (.bool true) := by
  have a1 := Add_c [(fA, .full), (gA, .full)] (by simp) (by simp [fA, gA]) .full
  have a2 := Sub_c fA fA (by simp [fA]) (by simp [fA]) .full .full
  have a3 := Min_c fA gA (by simp [fA]) (by simp [gA]) .full .full
  have a4 := Range_c fA (by simp [fA]) .full 4 8 (-3) (-1)
  have a5 := LE_c gA fA (by simp [gA]) (by simp [fA]) .full .full 0
  have a6 := LE_c gA fA (by simp [gA]) (by simp [fA]) .full .full 9
  have a7 := Range_c fA (by simp [fA]) .full 4 3 0 0
  have a8 := Add_c [(gA, .full), (bA, .full)] (by simp) (by simp [gA, bA]) .full
  have s1 := Same_2 sA sA (by simp [sA]) .no .full
  have s2 := Same_2 mA mA (by simp [mA]) .no .full
  have s3 := Same_2 rA rA (by simp [rA]) .no .full
  have q1 : sameF sA sA = true := by decide
  have q2 : sameF mA mA = true := by decide
  have q3 : sameF rA rA = true := by decide
  rw [q1] at s1
  rw [q2] at s2
  rw [q3] at s3
  clear q1 q2 q3
  simp only [List.map_cons, List.map_nil, rowT, e1] at a1
  simp only [e2] at a2
  simp only [e3] at a3
  simp only [e4] at a4
  simp only [e5] at a5
  simp only [e6] at a6
  simp only [e7] at a7
  simp only [List.map_cons, List.map_nil, rowT, e8] at a8
  simp only [fA, gA, sA, mA, rA, bA, List.map_cons, List.map_nil, Seg.a, num] at a1 a2 a3 a4 a5 a6 a7 a8 s1 s2 s3
  refine VPure.of v_liverylaw03_head_ok (Nat.le_of_ble_eq_true rfl) (fun Z st => ?_)
  simp only [v_liverylaw03_head, ↓vD, vU, VE.ev, VE.evs, retvs, tupOf, grab, vfill, vbsl, eqCells, eqCell, veqs, veqs1, vmnx, AV.isCell, AV.isUndef, Nat.reduceEqDiff, Nat.reduceAdd, Nat.reduceSub, Nat.reduceLeDiff, Nat.reduceLT, reduceIte, reduceCtorEq, Nat.reduceBEq, k_app, k_slc1]
  (repeat' (first | (simp (config := { maxDischargeDepth := 16 }) only [*, vX, Int.reduceLE, Int.reduceLT, Int.reduceGE, Int.reduceGT, Int.reduceBEq, Int.reduceBNe, Int.reduceAdd, Int.reduceSub, Int.reduceMul, Int.reduceNeg, ↓vD, vU, VE.ev, VE.evs, retvs, tupOf, grab, vfill, vbsl, eqCells, eqCell, veqs, veqs1, vmnx, AV.isCell, AV.isUndef, Nat.reduceEqDiff, Nat.reduceAdd, Nat.reduceSub, Nat.reduceLeDiff, Nat.reduceLT, reduceIte, reduceCtorEq, Nat.reduceBEq]) | (simp (disch := first | assumption | omega | exact Seg.len _ | exact Vec.len _ | exact Leg.len _ | exact num_len _ | exact rowA_len _ | exact rowA_len | exact rowT_len _ | exact rowT_len | exact Seg.len | exact Vec.len | exact Leg.len | exact num_len | exact AV.slen _ _ | rfl) only [vP]) | (with_reducible (first | refine gsnd (fun _ => ?_) (fun _ => ?_) | refine csnd (fun _ => ?_) (fun _ => ?_) | refine gsd (fun _ => ?_) (fun _ => ?_) | refine csd (fun _ => ?_) (fun _ => ?_) | refine gsn (fun _ => ?_) (fun _ => ?_) | refine csn (fun _ => ?_) (fun _ => ?_))) | (with_reducible refine gs (fun _ => ?_) (fun _ => ?_)) | (with_reducible refine cs_ (fun _ => ?_) (fun _ => ?_)) | (with_reducible refine objQ_i (fun _ _ => ?_); (repeat (with_reducible refine imp_i (fun _ => ?_)))) | ((try with_reducible refine appK_a ?_); first | (with_reducible refine appD_F (by refine ⟨?_, ?_, ?_, ?_⟩ <;> (first | assumption | omega | exact St.has_add (by assumption) | (simp only [ins_has]; exact St.has_add (by assumption)) | (simp only [ins_has, fresh_ins, kill_ins, add_ins] at *; exact St.has_add (by assumption)) | (simp only [*, ins_has, has_full, St.has_add]; done) | (simp [-List.map_take, -List.map_drop, or_imp, forall_and, Seg.a, Vec.a, Leg.a, num, okEl, cells_agg, cells_int, cells_sl, cells_bool, AV.isCell]; done) | (simp; omega))) (fun _ _ => ?_)) | (with_reducible refine appD_V (by refine ⟨?_, ?_, ?_, ?_, ?_⟩ <;> (first | assumption | omega | exact St.has_add (by assumption) | (simp only [ins_has]; exact St.has_add (by assumption)) | (simp only [ins_has, fresh_ins, kill_ins, add_ins] at *; exact St.has_add (by assumption)) | (simp only [*, ins_has, has_full, St.has_add]; done) | (simp [-List.map_take, -List.map_drop, or_imp, forall_and, Seg.a, Vec.a, Leg.a, num, okEl, cells_agg, cells_int, cells_sl, cells_bool, AV.isCell]; done) | (simp; omega))) (fun _ _ => ?_))) | (with_reducible refine freshQ_i (fun _ _ => ?_)) | (with_reducible refine nilQ_i (fun _ _ => ?_)) | (with_reducible first | refine callH_use (seg_3 _ _ _) ?_ | refine pureQ_use (seg_3 _ _ _) ?_) | (with_reducible first | refine callH_use (a1) ?_ | refine pureQ_use (a1) ?_) | (with_reducible first | refine callH_use (a2) ?_ | refine pureQ_use (a2) ?_) | (with_reducible first | refine callH_use (a3) ?_ | refine pureQ_use (a3) ?_) | (with_reducible first | refine callH_use (a4) ?_ | refine pureQ_use (a4) ?_) | (with_reducible first | refine callH_use (a5) ?_ | refine pureQ_use (a5) ?_) | (with_reducible first | refine callH_use (a6) ?_ | refine pureQ_use (a6) ?_) | (with_reducible first | refine callH_use (a7) ?_ | refine pureQ_use (a7) ?_) | (with_reducible first | refine callH_use (a8) ?_ | refine pureQ_use (a8) ?_) | (with_reducible first | refine callH_use (s1) ?_ | refine pureQ_use (s1) ?_) | (with_reducible first | refine callH_use (s2) ?_ | refine pureQ_use (s2) ?_) | (with_reducible first | refine callH_use (s3) ?_ | refine pureQ_use (s3) ?_)))
end Go.Proofs.Ytddbnncimggogaa.V
end
section
set_option linter.unusedSimpArgs false
set_option linter.unusedVariables false
/- Sums and differences, one against the other: plain. -/
namespace Go.Proofs.Ytddbnncimggogaa.V
open Go Go.Proofs Go.Proofs.Ytddbnncimggogaa.SP
theorem may_canon {f : List Seg} (h : mayF f = true) : Canon f v0 := ((mayF_iff f).1 h).1
theorem may_at {f : List Seg} (h : mayF f = true) (t : Int) : mayV (atF f t) = true := atF_may ((mayF_iff f).1 h).2 t
theorem may_ext {f g : List Seg} (hf : mayF f = true) (hg : mayF g = true) (h : ∀ t, atF f t = atF g t) : f = g := canon_ext f g (may_canon hf) (may_canon hg) h
theorem may_nil : mayF [] = true := rfl
theorem pair_eq {α : Type} {p : α × Int} {a : α} {b : Int} (h1 : p.1 = a) (h2 : p.2 = b) : p = (a, b) := by cases p; simp_all
theorem toldF_may {v : Vec} (h : mayV v = true) : toldF v = (v, 0) := by unfold toldF; rw [if_pos h]
/-- Sums and differences of what may be, without bounds of machine numbers. -/
theorem add_val (a b : Vec) (ha : mayV a = true) (hb : mayV b = true) : oneR 0 a b = toldF ⟨a.m + b.m, a.c + b.c⟩ := by
  have h1 := (mayV_iff a).1 ha
  have h2 := (mayV_iff b).1 hb
  unfold oneR addR
  rw [if_pos rfl, if_pos (by rw [ha, hb]; rfl), wr_id (by omega) (by omega), wr_id (by omega) (by omega)]
theorem vec_eta (v : Vec) : (⟨v.m, v.c⟩ : Vec) = v := by cases v; rfl
/-! ### At most -/
end Go.Proofs.Ytddbnncimggogaa.V
end
section
set_option linter.unusedSimpArgs false
set_option linter.unusedVariables false
/- Sums of rows of functions: plain. -/
namespace Go.Proofs.Ytddbnncimggogaa.V
open Go Go.Proofs Go.Proofs.Ytddbnncimggogaa.SP
set_option maxRecDepth 100000
def small (b : Int) (v : Vec) : Prop := (-b ≤ v.m ∧ v.m ≤ b) ∧ (-b ≤ v.c ∧ v.c ≤ b)
theorem atF_small {f : List Seg} {b : Int} (hb : 0 ≤ b) (h : ∀ x ∈ f, small b x.v) (t : Int) : small b (atF f t) := by
  have : ∀ (l : List Seg) (v : Vec), (∀ x ∈ l, small b x.v) → small b v → small b (l.foldl (fun v x => if x.t ≤ t then x.v else v) v) := by
    intro l
    induction l with
    | nil => intro v _ hv; exact hv
    | cons x l ih =>
      intro v hl hv
      rw [List.foldl_cons]
      refine ih _ (fun y hy => hl y (by simp [hy])) ?_
      split
      · exact hl x (by simp)
      · exact hv
  exact this f v0 h (by unfold small v0; simp only; omega)
def sumM (ls : List (List Seg)) (t : Int) : Int := (ls.map fun f => (atF f t).m).sum
def sumK (ls : List (List Seg)) (t : Int) : Int := (ls.map fun f => (atF f t).c).sum
theorem sum_law (ls : List (List Seg)) : ∀ (acc : List Seg) (n : Nat), mayF acc = true → (∀ t, small (n * 1099511627776) (atF acc t)) → (∀ f ∈ ls, mayF f = true) → (∀ f ∈ ls, ∀ x ∈ f, small 1099511627776 x.v) → n + ls.length ≤ 9 →
    (sumF ls acc).2 = 0 ∧ mayF (sumF ls acc).1 = true ∧ ∀ t, atF (sumF ls acc).1 t = ⟨(atF acc t).m + sumM ls t, (atF acc t).c + sumK ls t⟩ := by
  induction ls with
  | nil => intro acc n ha _ _ _ _; exact ⟨rfl, ha, fun t => by simp [sumF, sumM, sumK, vec_eta]⟩
  | cons x ls ih =>
    intro acc n ha hs hm hx hn
    have hn' : n + 1 + ls.length ≤ 9 := by simp at hn; omega
    have hsx := fun t => atF_small (f := x) (b := 1099511627776) (by omega) (hx x (by simp)) t
    have hval : ∀ t, oneR 0 (atF acc t) (atF x t) = (⟨(atF acc t).m + (atF x t).m, (atF acc t).c + (atF x t).c⟩, 0) := fun t => by
      rw [add_val _ _ (may_at ha t) (may_at (hm x (by simp)) t)]
      refine toldF_may ?_
      rw [mayV_iff]
      have h1 := hs t
      have h2 := hsx t
      unfold small at h1 h2
      have : (n : Int) ≤ 8 := by simp at hn; omega
      simp only
      omega
    rcases doR_law 0 acc x ha (hm x (by simp)) with ⟨_, h2, h3, h4⟩ | ⟨⟨t, ht⟩, _⟩
    · have hs2 : ∀ t, small (((n + 1 : Nat) : Int) * 1099511627776) (atF (doR 0 acc x).1 t) := fun t => by
        rw [h4 t, hval t]
        have h1 := hs t
        have h2 := hsx t
        unfold small at h1 h2 ⊢
        simp only
        omega
      obtain ⟨b1, b2, b3⟩ := ih (doR 0 acc x).1 (n + 1) h3 hs2 (fun f hf => hm f (by simp [hf])) (fun f hf => hx f (by simp [hf])) hn'
      unfold sumF
      rw [if_pos h2]
      refine ⟨b1, b2, fun t => ?_⟩
      rw [b3 t, h4 t, hval t]
      simp only [sumM, sumK, List.map_cons, List.sum_cons, Vec.mk.injEq]
      omega
    · rw [hval t] at ht; exact absurd rfl ht
theorem sumR_law (ls : List (List Seg)) (hm : ∀ f ∈ ls, mayF f = true) (hx : ∀ f ∈ ls, ∀ x ∈ f, small 1099511627776 x.v) (hn : ls.length ≤ 8) :
    (sumR ls).2 = 0 ∧ mayF (sumR ls).1 = true ∧ ∀ t, atF (sumR ls).1 t = ⟨sumM ls t, sumK ls t⟩ := by
  obtain ⟨h1, h2, h3⟩ := sum_law ls [] 0 may_nil (fun t => by unfold small atF v0; simp) hm hx (by omega)
  unfold sumR
  rw [if_pos (List.all_eq_true.2 hm)]
  refine ⟨h1, h2, fun t => ?_⟩
  rw [h3 t]
  simp [atF, v0]
theorem sum_rev (ls : List (List Seg)) (hm : ∀ f ∈ ls, mayF f = true) (hx : ∀ f ∈ ls, ∀ x ∈ f, small 1099511627776 x.v) (hn : ls.length ≤ 8) : sumR ls.reverse = sumR ls := by
  obtain ⟨a1, a2, a3⟩ := sumR_law ls hm hx hn
  obtain ⟨b1, b2, b3⟩ := sumR_law ls.reverse (fun f hf => hm f (by simpa using hf)) (fun f hf => hx f (by simpa using hf)) (by simpa using hn)
  have e : (sumR ls.reverse).1 = (sumR ls).1 := may_ext b2 a2 (fun t => by
    rw [b3 t, a3 t]
    simp only [sumM, sumK, List.map_reverse, Vec.mk.injEq]
    exact ⟨List.sum_reverse _, List.sum_reverse _⟩)
  exact pair_eq e b1 |>.trans (pair_eq rfl a1).symm
/-- The statement's own sum, one function after the other. -/
def wantS (t : Int) : List (List Seg) → Vec → Vec
  | [], v => v
  | f :: ls, v => wantS t ls (addR v (atF f t)).1
theorem want_law (t : Int) (ls : List (List Seg)) : ∀ (v : Vec) (n : Nat), small (n * 1099511627776) v → (∀ f ∈ ls, mayF f = true) → (∀ f ∈ ls, ∀ x ∈ f, small 1099511627776 x.v) → n + ls.length ≤ 9 → wantS t ls v = ⟨v.m + sumM ls t, v.c + sumK ls t⟩ := by
  induction ls with
  | nil => intro v n _ _ _ _; simp [wantS, sumM, sumK, vec_eta]
  | cons x ls ih =>
    intro v n hs hm hx hn
    have hsx := atF_small (f := x) (b := 1099511627776) (by omega) (hx x (by simp)) t
    have hn8 : (n : Int) ≤ 8 := by simp at hn; omega
    have hmv : mayV v = true := by rw [mayV_iff]; unfold small at hs; omega
    have hval : addR v (atF x t) = (⟨v.m + (atF x t).m, v.c + (atF x t).c⟩, 0) := by
      have := add_val v (atF x t) hmv (may_at (hm x (by simp)) t)
      have e : oneR 0 v (atF x t) = addR v (atF x t) := by unfold oneR; rw [if_pos rfl]
      rw [← e, this]
      refine toldF_may ?_
      rw [mayV_iff]
      unfold small at hs hsx
      simp only
      omega
    unfold wantS
    rw [hval, ih _ (n + 1) (by unfold small at hs hsx ⊢; simp only; omega) (fun f hf => hm f (by simp [hf])) (fun f hf => hx f (by simp [hf])) (by simp at hn; omega)]
    simp only [sumM, sumK, List.map_cons, List.sum_cons, Vec.mk.injEq]
    omega
end Go.Proofs.Ytddbnncimggogaa.V
end
section
set_option linter.unusedSimpArgs false
set_option linter.unusedVariables false
/- CalcSums, walked. -/
namespace Go.Proofs.Ytddbnncimggogaa.V
open Go Go.Proofs
set_option maxRecDepth 100000
set_option maxHeartbeats 4000000
theorem AddA_c (ls : List (List Seg)) (hn : ls.length ≤ 1000) (hl : ∀ f ∈ ls, f.length ≤ 1000) (t : Tok) : VPure Try.prog 31 [.sl (ls.map rowA) t] (.tup [.sl ((sumR ls).1.map Seg.a) .no, .int .i64 (sumR ls).2]) := by
  have h := Add_c (ls.map fun f => (f, Tok.no)) (by simpa using hn) (by simpa using hl) t
  have e1 : (ls.map fun f => (f, Tok.no)).map rowT = ls.map rowA := by simp [rowT, rowA]
  have e2 : (ls.map fun f => (f, Tok.no)).map (·.1) = ls := by rw [List.map_map]; exact List.map_id ls
  rw [e1, e2, addC_sum] at h
  exact h
theorem sumF_len2 : ∀ (ls : List (List Seg)) (acc : List Seg), (sumF ls acc).1.length ≤ acc.length + (ls.map List.length).sum
  | [], acc => by simp [sumF]
  | x :: ls, acc => by
    unfold sumF
    split
    · have := sumF_len2 ls (doR 0 acc x).1
      have := doR_len 0 acc x
      simp; omega
    · simp
theorem sum_le : ∀ (ls : List (List Seg)) (b : Nat), (∀ f ∈ ls, f.length ≤ b) → (ls.map List.length).sum ≤ ls.length * b
  | [], b, _ => by simp
  | x :: ls, b, h => by
    have h1 := sum_le ls b (fun f hf => h f (by simp [hf]))
    have h2 := h x (by simp)
    simp only [List.map_cons, List.sum_cons, List.length_cons, Nat.add_mul]
    omega
/-- What is looked for in a function before anything is summed. -/
def goodL (f : List Seg) : Prop := f.length ≤ 30 ∧ mayF f = true ∧ ∀ x ∈ f, small 1099511627776 x.v
theorem small_max {v : Vec} (hv : mayV v = true) (h : ¬ 1099511627776 < max (max (max v.m (IntKind.i64.wrap (0 - v.m))) v.c) (IntKind.i64.wrap (0 - v.c))) : small 1099511627776 v := by
  have h1 := (mayV_iff v).1 hv
  rw [wrap_i64 (0 - v.m) (by omega) (by omega), wrap_i64 (0 - v.c) (by omega) (by omega)] at h
  unfold small
  omega
theorem calcSums_v (ls : List (List Seg)) (_ : ∀ f ∈ ls, (∀ x ∈ f, wfSeg x) ∧ (f.length : Int) ≤ 9223372036854775807) (hl : (ls.length : Int) ≤ 9223372036854775807) (ts : List Int) (_ : ∀ t ∈ ts, I64 t) (ht : (ts.length : Int) ≤ 9223372036854775807) :
    VPure Try.prog 7 [.sl (ls.map rowA) .no, .sl (ts.map num) .no] (.bool true) := by
  refine VPure.of v_liverylaw03_CalcSums_ok (Nat.le_of_ble_eq_true rfl) (fun Z st => ?_)
  by_cases h8 : 8 < ls.length
  · simp only [v_liverylaw03_CalcSums, ↓vD, vU, VE.ev, VE.evs, retvs, tupOf, grab, vfill, vbsl, eqCells, eqCell, veqs, veqs1, vmnx, AV.isCell, AV.isUndef, Nat.reduceEqDiff, Nat.reduceAdd, Nat.reduceSub, Nat.reduceLeDiff, Nat.reduceLT, reduceIte, reduceCtorEq, Nat.reduceBEq, k_app, k_slc1]
    (repeat' (first | (simp (config := { maxDischargeDepth := 16 }) only [*, vX, Int.reduceLE, Int.reduceLT, Int.reduceGE, Int.reduceGT, Int.reduceBEq, Int.reduceBNe, Int.reduceAdd, Int.reduceSub, Int.reduceMul, Int.reduceNeg, ↓vD, vU, VE.ev, VE.evs, retvs, tupOf, grab, vfill, vbsl, eqCells, eqCell, veqs, veqs1, vmnx, AV.isCell, AV.isUndef, Nat.reduceEqDiff, Nat.reduceAdd, Nat.reduceSub, Nat.reduceLeDiff, Nat.reduceLT, reduceIte, reduceCtorEq, Nat.reduceBEq]) | (simp (disch := first | assumption | omega | exact Seg.len _ | exact Vec.len _ | exact Leg.len _ | exact num_len _ | exact rowA_len _ | exact rowA_len | exact rowT_len _ | exact rowT_len | exact Seg.len | exact Vec.len | exact Leg.len | exact num_len | exact AV.slen _ _ | rfl) only [vP]) | (with_reducible (first | refine gsnd (fun _ => ?_) (fun _ => ?_) | refine csnd (fun _ => ?_) (fun _ => ?_) | refine gsd (fun _ => ?_) (fun _ => ?_) | refine csd (fun _ => ?_) (fun _ => ?_) | refine gsn (fun _ => ?_) (fun _ => ?_) | refine csn (fun _ => ?_) (fun _ => ?_))) | (with_reducible refine gs (fun _ => ?_) (fun _ => ?_)) | (with_reducible refine cs_ (fun _ => ?_) (fun _ => ?_)) | (with_reducible refine objQ_i (fun _ _ => ?_); (repeat (with_reducible refine imp_i (fun _ => ?_)))) | ((try with_reducible refine appK_a ?_); first | (with_reducible refine appD_F (by refine ⟨?_, ?_, ?_, ?_⟩ <;> (first | assumption | omega | exact St.has_add (by assumption) | (simp only [ins_has]; exact St.has_add (by assumption)) | (simp only [ins_has, fresh_ins, kill_ins, add_ins] at *; exact St.has_add (by assumption)) | (simp only [*, ins_has, has_full, St.has_add]; done) | (simp [-List.map_take, -List.map_drop, or_imp, forall_and, Seg.a, Vec.a, Leg.a, num, okEl, cells_agg, cells_int, cells_sl, cells_bool, AV.isCell]; done) | (simp; omega))) (fun _ _ => ?_)) | (with_reducible refine appD_V (by refine ⟨?_, ?_, ?_, ?_, ?_⟩ <;> (first | assumption | omega | exact St.has_add (by assumption) | (simp only [ins_has]; exact St.has_add (by assumption)) | (simp only [ins_has, fresh_ins, kill_ins, add_ins] at *; exact St.has_add (by assumption)) | (simp only [*, ins_has, has_full, St.has_add]; done) | (simp [-List.map_take, -List.map_drop, or_imp, forall_and, Seg.a, Vec.a, Leg.a, num, okEl, cells_agg, cells_int, cells_sl, cells_bool, AV.isCell]; done) | (simp; omega))) (fun _ _ => ?_))) | (with_reducible refine freshQ_i (fun _ _ => ?_)) | (with_reducible refine nilQ_i (fun _ _ => ?_)) | (with_reducible first | refine callH_use (head_3) ?_ | refine pureQ_use (head_3) ?_)))
  by_cases h40 : 40 < ts.length
  · simp only [v_liverylaw03_CalcSums, ↓vD, vU, VE.ev, VE.evs, retvs, tupOf, grab, vfill, vbsl, eqCells, eqCell, veqs, veqs1, vmnx, AV.isCell, AV.isUndef, Nat.reduceEqDiff, Nat.reduceAdd, Nat.reduceSub, Nat.reduceLeDiff, Nat.reduceLT, reduceIte, reduceCtorEq, Nat.reduceBEq, k_app, k_slc1]
    (repeat' (first | (simp (config := { maxDischargeDepth := 16 }) only [*, vX, Int.reduceLE, Int.reduceLT, Int.reduceGE, Int.reduceGT, Int.reduceBEq, Int.reduceBNe, Int.reduceAdd, Int.reduceSub, Int.reduceMul, Int.reduceNeg, ↓vD, vU, VE.ev, VE.evs, retvs, tupOf, grab, vfill, vbsl, eqCells, eqCell, veqs, veqs1, vmnx, AV.isCell, AV.isUndef, Nat.reduceEqDiff, Nat.reduceAdd, Nat.reduceSub, Nat.reduceLeDiff, Nat.reduceLT, reduceIte, reduceCtorEq, Nat.reduceBEq]) | (simp (disch := first | assumption | omega | exact Seg.len _ | exact Vec.len _ | exact Leg.len _ | exact num_len _ | exact rowA_len _ | exact rowA_len | exact rowT_len _ | exact rowT_len | exact Seg.len | exact Vec.len | exact Leg.len | exact num_len | exact AV.slen _ _ | rfl) only [vP]) | (with_reducible (first | refine gsnd (fun _ => ?_) (fun _ => ?_) | refine csnd (fun _ => ?_) (fun _ => ?_) | refine gsd (fun _ => ?_) (fun _ => ?_) | refine csd (fun _ => ?_) (fun _ => ?_) | refine gsn (fun _ => ?_) (fun _ => ?_) | refine csn (fun _ => ?_) (fun _ => ?_))) | (with_reducible refine gs (fun _ => ?_) (fun _ => ?_)) | (with_reducible refine cs_ (fun _ => ?_) (fun _ => ?_)) | (with_reducible refine objQ_i (fun _ _ => ?_); (repeat (with_reducible refine imp_i (fun _ => ?_)))) | ((try with_reducible refine appK_a ?_); first | (with_reducible refine appD_F (by refine ⟨?_, ?_, ?_, ?_⟩ <;> (first | assumption | omega | exact St.has_add (by assumption) | (simp only [ins_has]; exact St.has_add (by assumption)) | (simp only [ins_has, fresh_ins, kill_ins, add_ins] at *; exact St.has_add (by assumption)) | (simp only [*, ins_has, has_full, St.has_add]; done) | (simp [-List.map_take, -List.map_drop, or_imp, forall_and, Seg.a, Vec.a, Leg.a, num, okEl, cells_agg, cells_int, cells_sl, cells_bool, AV.isCell]; done) | (simp; omega))) (fun _ _ => ?_)) | (with_reducible refine appD_V (by refine ⟨?_, ?_, ?_, ?_, ?_⟩ <;> (first | assumption | omega | exact St.has_add (by assumption) | (simp only [ins_has]; exact St.has_add (by assumption)) | (simp only [ins_has, fresh_ins, kill_ins, add_ins] at *; exact St.has_add (by assumption)) | (simp only [*, ins_has, has_full, St.has_add]; done) | (simp [-List.map_take, -List.map_drop, or_imp, forall_and, Seg.a, Vec.a, Leg.a, num, okEl, cells_agg, cells_int, cells_sl, cells_bool, AV.isCell]; done) | (simp; omega))) (fun _ _ => ?_))) | (with_reducible refine freshQ_i (fun _ _ => ?_)) | (with_reducible refine nilQ_i (fun _ _ => ?_)) | (with_reducible first | refine callH_use (head_3) ?_ | refine pureQ_use (head_3) ?_)))
  clear hl ht
  simp only [v_liverylaw03_CalcSums, ↓vD, vU, VE.ev, VE.evs, retvs, tupOf, grab, vfill, vbsl, eqCells, eqCell, veqs, veqs1, vmnx, AV.isCell, AV.isUndef, Nat.reduceEqDiff, Nat.reduceAdd, Nat.reduceSub, Nat.reduceLeDiff, Nat.reduceLT, reduceIte, reduceCtorEq, Nat.reduceBEq, k_app, k_slc1]
  (repeat' (first | (simp (config := { maxDischargeDepth := 16 }) only [*, vX, Int.reduceLE, Int.reduceLT, Int.reduceGE, Int.reduceGT, Int.reduceBEq, Int.reduceBNe, Int.reduceAdd, Int.reduceSub, Int.reduceMul, Int.reduceNeg, ↓vD, vU, VE.ev, VE.evs, retvs, tupOf, grab, vfill, vbsl, eqCells, eqCell, veqs, veqs1, vmnx, AV.isCell, AV.isUndef, Nat.reduceEqDiff, Nat.reduceAdd, Nat.reduceSub, Nat.reduceLeDiff, Nat.reduceLT, reduceIte, reduceCtorEq, Nat.reduceBEq]) | (simp (disch := first | assumption | omega | exact Seg.len _ | exact Vec.len _ | exact Leg.len _ | exact num_len _ | exact rowA_len _ | exact rowA_len | exact rowT_len _ | exact rowT_len | exact Seg.len | exact Vec.len | exact Leg.len | exact num_len | exact AV.slen _ _ | rfl) only [vP]) | (with_reducible (first | refine gsnd (fun _ => ?_) (fun _ => ?_) | refine csnd (fun _ => ?_) (fun _ => ?_) | refine gsd (fun _ => ?_) (fun _ => ?_) | refine csd (fun _ => ?_) (fun _ => ?_) | refine gsn (fun _ => ?_) (fun _ => ?_) | refine csn (fun _ => ?_) (fun _ => ?_))) | (with_reducible refine gs (fun _ => ?_) (fun _ => ?_)) | (with_reducible refine cs_ (fun _ => ?_) (fun _ => ?_)) | (with_reducible refine objQ_i (fun _ _ => ?_); (repeat (with_reducible refine imp_i (fun _ => ?_)))) | ((try with_reducible refine appK_a ?_); first | (with_reducible refine appD_F (by refine ⟨?_, ?_, ?_, ?_⟩ <;> (first | assumption | omega | exact St.has_add (by assumption) | (simp only [ins_has]; exact St.has_add (by assumption)) | (simp only [ins_has, fresh_ins, kill_ins, add_ins] at *; exact St.has_add (by assumption)) | (simp only [*, ins_has, has_full, St.has_add]; done) | (simp [-List.map_take, -List.map_drop, or_imp, forall_and, Seg.a, Vec.a, Leg.a, num, okEl, cells_agg, cells_int, cells_sl, cells_bool, AV.isCell]; done) | (simp; omega))) (fun _ _ => ?_)) | (with_reducible refine appD_V (by refine ⟨?_, ?_, ?_, ?_, ?_⟩ <;> (first | assumption | omega | exact St.has_add (by assumption) | (simp only [ins_has]; exact St.has_add (by assumption)) | (simp only [ins_has, fresh_ins, kill_ins, add_ins] at *; exact St.has_add (by assumption)) | (simp only [*, ins_has, has_full, St.has_add]; done) | (simp [-List.map_take, -List.map_drop, or_imp, forall_and, Seg.a, Vec.a, Leg.a, num, okEl, cells_agg, cells_int, cells_sl, cells_bool, AV.isCell]; done) | (simp; omega))) (fun _ _ => ?_))) | (with_reducible refine freshQ_i (fun _ _ => ?_)) | (with_reducible refine nilQ_i (fun _ _ => ?_))))
  refine loopf_of (len := ls.length) (by simp only [asgL, dsts, List.cons_append, List.nil_append, List.append_nil]; rfl) (by simp only [noR, Bool.and_true, Bool.and_false]; rfl) (by omega) (fun i fr s => s = st ∧ fr.t 5 = .int .i64 i ∧ Hid (∀ f ∈ ls.take i, goodL f)) ?_ ?_ ?_
  · exact ⟨rfl, by simp [↓vD, vU, VE.ev, VE.evs, retvs, tupOf, grab, vfill, vbsl, eqCells, eqCell, veqs, veqs1, vmnx, AV.isCell, AV.isUndef, Nat.reduceEqDiff, Nat.reduceAdd, Nat.reduceSub, Nat.reduceLeDiff, Nat.reduceLT, reduceIte, reduceCtorEq, Nat.reduceBEq, k_app, k_slc1], ⟨by simp⟩⟩
  · rintro i fr s hi hw hf hd ⟨rfl, h5, HG⟩
    obtain ⟨f, hfi⟩ : ∃ f, ls[i] = f := ⟨_, rfl⟩
    by_cases h30 : 30 < f.length
    · (repeat' (first | (simp (config := { maxDischargeDepth := 16 }) only [*, rowA, vX, Int.reduceLE, Int.reduceLT, Int.reduceGE, Int.reduceGT, Int.reduceBEq, Int.reduceBNe, Int.reduceAdd, Int.reduceSub, Int.reduceMul, Int.reduceNeg, ↓vD, vU, VE.ev, VE.evs, retvs, tupOf, grab, vfill, vbsl, eqCells, eqCell, veqs, veqs1, vmnx, AV.isCell, AV.isUndef, Nat.reduceEqDiff, Nat.reduceAdd, Nat.reduceSub, Nat.reduceLeDiff, Nat.reduceLT, reduceIte, reduceCtorEq, Nat.reduceBEq]) | (simp (disch := first | assumption | omega | exact Seg.len _ | exact Vec.len _ | exact Leg.len _ | exact num_len _ | exact rowA_len _ | exact rowA_len | exact rowT_len _ | exact rowT_len | exact Seg.len | exact Vec.len | exact Leg.len | exact num_len | exact AV.slen _ _ | rfl) only [rowA, vP]) | (with_reducible (first | refine gsnd (fun _ => ?_) (fun _ => ?_) | refine csnd (fun _ => ?_) (fun _ => ?_) | refine gsd (fun _ => ?_) (fun _ => ?_) | refine csd (fun _ => ?_) (fun _ => ?_) | refine gsn (fun _ => ?_) (fun _ => ?_) | refine csn (fun _ => ?_) (fun _ => ?_))) | (with_reducible refine gs (fun _ => ?_) (fun _ => ?_)) | (with_reducible refine cs_ (fun _ => ?_) (fun _ => ?_)) | (with_reducible refine objQ_i (fun _ _ => ?_); (repeat (with_reducible refine imp_i (fun _ => ?_)))) | ((try with_reducible refine appK_a ?_); first | (with_reducible refine appD_F (by refine ⟨?_, ?_, ?_, ?_⟩ <;> (first | assumption | omega | exact St.has_add (by assumption) | (simp only [ins_has]; exact St.has_add (by assumption)) | (simp only [ins_has, fresh_ins, kill_ins, add_ins] at *; exact St.has_add (by assumption)) | (simp only [*, ins_has, has_full, St.has_add]; done) | (simp [-List.map_take, -List.map_drop, or_imp, forall_and, Seg.a, Vec.a, Leg.a, num, okEl, cells_agg, cells_int, cells_sl, cells_bool, AV.isCell]; done) | (simp; omega))) (fun _ _ => ?_)) | (with_reducible refine appD_V (by refine ⟨?_, ?_, ?_, ?_, ?_⟩ <;> (first | assumption | omega | exact St.has_add (by assumption) | (simp only [ins_has]; exact St.has_add (by assumption)) | (simp only [ins_has, fresh_ins, kill_ins, add_ins] at *; exact St.has_add (by assumption)) | (simp only [*, ins_has, has_full, St.has_add]; done) | (simp [-List.map_take, -List.map_drop, or_imp, forall_and, Seg.a, Vec.a, Leg.a, num, okEl, cells_agg, cells_int, cells_sl, cells_bool, AV.isCell]; done) | (simp; omega))) (fun _ _ => ?_))) | (with_reducible refine freshQ_i (fun _ _ => ?_)) | (with_reducible refine nilQ_i (fun _ _ => ?_)) | (with_reducible first | refine callH_use (head_3) ?_ | refine pureQ_use (head_3) ?_)))
    have hm := May_2 f (by omega) .no
    cases mf : mayF f with
    | false =>
      rw [mf] at hm
      clear mf
      (repeat' (first | (simp (config := { maxDischargeDepth := 16 }) only [*, rowA, vX, Int.reduceLE, Int.reduceLT, Int.reduceGE, Int.reduceGT, Int.reduceBEq, Int.reduceBNe, Int.reduceAdd, Int.reduceSub, Int.reduceMul, Int.reduceNeg, ↓vD, vU, VE.ev, VE.evs, retvs, tupOf, grab, vfill, vbsl, eqCells, eqCell, veqs, veqs1, vmnx, AV.isCell, AV.isUndef, Nat.reduceEqDiff, Nat.reduceAdd, Nat.reduceSub, Nat.reduceLeDiff, Nat.reduceLT, reduceIte, reduceCtorEq, Nat.reduceBEq]) | (simp (disch := first | assumption | omega | exact Seg.len _ | exact Vec.len _ | exact Leg.len _ | exact num_len _ | exact rowA_len _ | exact rowA_len | exact rowT_len _ | exact rowT_len | exact Seg.len | exact Vec.len | exact Leg.len | exact num_len | exact AV.slen _ _ | rfl) only [rowA, vP]) | (with_reducible (first | refine gsnd (fun _ => ?_) (fun _ => ?_) | refine csnd (fun _ => ?_) (fun _ => ?_) | refine gsd (fun _ => ?_) (fun _ => ?_) | refine csd (fun _ => ?_) (fun _ => ?_) | refine gsn (fun _ => ?_) (fun _ => ?_) | refine csn (fun _ => ?_) (fun _ => ?_))) | (with_reducible refine gs (fun _ => ?_) (fun _ => ?_)) | (with_reducible refine cs_ (fun _ => ?_) (fun _ => ?_)) | (with_reducible refine objQ_i (fun _ _ => ?_); (repeat (with_reducible refine imp_i (fun _ => ?_)))) | ((try with_reducible refine appK_a ?_); first | (with_reducible refine appD_F (by refine ⟨?_, ?_, ?_, ?_⟩ <;> (first | assumption | omega | exact St.has_add (by assumption) | (simp only [ins_has]; exact St.has_add (by assumption)) | (simp only [ins_has, fresh_ins, kill_ins, add_ins] at *; exact St.has_add (by assumption)) | (simp only [*, ins_has, has_full, St.has_add]; done) | (simp [-List.map_take, -List.map_drop, or_imp, forall_and, Seg.a, Vec.a, Leg.a, num, okEl, cells_agg, cells_int, cells_sl, cells_bool, AV.isCell]; done) | (simp; omega))) (fun _ _ => ?_)) | (with_reducible refine appD_V (by refine ⟨?_, ?_, ?_, ?_, ?_⟩ <;> (first | assumption | omega | exact St.has_add (by assumption) | (simp only [ins_has]; exact St.has_add (by assumption)) | (simp only [ins_has, fresh_ins, kill_ins, add_ins] at *; exact St.has_add (by assumption)) | (simp only [*, ins_has, has_full, St.has_add]; done) | (simp [-List.map_take, -List.map_drop, or_imp, forall_and, Seg.a, Vec.a, Leg.a, num, okEl, cells_agg, cells_int, cells_sl, cells_bool, AV.isCell]; done) | (simp; omega))) (fun _ _ => ?_))) | (with_reducible refine freshQ_i (fun _ _ => ?_)) | (with_reducible refine nilQ_i (fun _ _ => ?_)) | (with_reducible first | refine callH_use (head_3) ?_ | refine pureQ_use (head_3) ?_) | (with_reducible first | refine callH_use (hm) ?_ | refine pureQ_use (hm) ?_)))
    | true =>
    rw [mf] at hm
    have HM := Hid.mk mf
    clear mf
    (repeat' (first | (simp (config := { maxDischargeDepth := 16 }) only [*, rowA, vX, Int.reduceLE, Int.reduceLT, Int.reduceGE, Int.reduceGT, Int.reduceBEq, Int.reduceBNe, Int.reduceAdd, Int.reduceSub, Int.reduceMul, Int.reduceNeg, ↓vD, vU, VE.ev, VE.evs, retvs, tupOf, grab, vfill, vbsl, eqCells, eqCell, veqs, veqs1, vmnx, AV.isCell, AV.isUndef, Nat.reduceEqDiff, Nat.reduceAdd, Nat.reduceSub, Nat.reduceLeDiff, Nat.reduceLT, reduceIte, reduceCtorEq, Nat.reduceBEq]) | (simp (disch := first | assumption | omega | exact Seg.len _ | exact Vec.len _ | exact Leg.len _ | exact num_len _ | exact rowA_len _ | exact rowA_len | exact rowT_len _ | exact rowT_len | exact Seg.len | exact Vec.len | exact Leg.len | exact num_len | exact AV.slen _ _ | rfl) only [rowA, vP]) | (with_reducible (first | refine gsnd (fun _ => ?_) (fun _ => ?_) | refine csnd (fun _ => ?_) (fun _ => ?_) | refine gsd (fun _ => ?_) (fun _ => ?_) | refine csd (fun _ => ?_) (fun _ => ?_) | refine gsn (fun _ => ?_) (fun _ => ?_) | refine csn (fun _ => ?_) (fun _ => ?_))) | (with_reducible refine gs (fun _ => ?_) (fun _ => ?_)) | (with_reducible refine cs_ (fun _ => ?_) (fun _ => ?_)) | (with_reducible refine objQ_i (fun _ _ => ?_); (repeat (with_reducible refine imp_i (fun _ => ?_)))) | ((try with_reducible refine appK_a ?_); first | (with_reducible refine appD_F (by refine ⟨?_, ?_, ?_, ?_⟩ <;> (first | assumption | omega | exact St.has_add (by assumption) | (simp only [ins_has]; exact St.has_add (by assumption)) | (simp only [ins_has, fresh_ins, kill_ins, add_ins] at *; exact St.has_add (by assumption)) | (simp only [*, ins_has, has_full, St.has_add]; done) | (simp [-List.map_take, -List.map_drop, or_imp, forall_and, Seg.a, Vec.a, Leg.a, num, okEl, cells_agg, cells_int, cells_sl, cells_bool, AV.isCell]; done) | (simp; omega))) (fun _ _ => ?_)) | (with_reducible refine appD_V (by refine ⟨?_, ?_, ?_, ?_, ?_⟩ <;> (first | assumption | omega | exact St.has_add (by assumption) | (simp only [ins_has]; exact St.has_add (by assumption)) | (simp only [ins_has, fresh_ins, kill_ins, add_ins] at *; exact St.has_add (by assumption)) | (simp only [*, ins_has, has_full, St.has_add]; done) | (simp [-List.map_take, -List.map_drop, or_imp, forall_and, Seg.a, Vec.a, Leg.a, num, okEl, cells_agg, cells_int, cells_sl, cells_bool, AV.isCell]; done) | (simp; omega))) (fun _ _ => ?_))) | (with_reducible refine freshQ_i (fun _ _ => ?_)) | (with_reducible refine nilQ_i (fun _ _ => ?_)) | (with_reducible first | refine callH_use (hm) ?_ | refine pureQ_use (hm) ?_)))
    refine loopf_of (len := f.length) (by simp only [asgL, dsts, List.cons_append, List.nil_append, List.append_nil]; rfl) (by simp only [noR, Bool.and_true, Bool.and_false]; rfl) (by omega) (fun k fr2 s2 => s2 = s ∧ fr2.t 6 = .int .i64 k ∧ Hid (∀ x ∈ f.take k, small 1099511627776 x.v)) ?_ ?_ ?_
    · exact ⟨rfl, by simp [↓vD, vU, VE.ev, VE.evs, retvs, tupOf, grab, vfill, vbsl, eqCells, eqCell, veqs, veqs1, vmnx, AV.isCell, AV.isUndef, Nat.reduceEqDiff, Nat.reduceAdd, Nat.reduceSub, Nat.reduceLeDiff, Nat.reduceLT, reduceIte, reduceCtorEq, Nat.reduceBEq, k_app, k_slc1], ⟨by simp⟩⟩
    · rintro k fr2 s2 hk hw2 hf2 hd2 ⟨rfl, h6, HS⟩
      (repeat' (first | (simp (config := { maxDischargeDepth := 16 }) only [*, rowA, Seg.a, vX, Int.reduceLE, Int.reduceLT, Int.reduceGE, Int.reduceGT, Int.reduceBEq, Int.reduceBNe, Int.reduceAdd, Int.reduceSub, Int.reduceMul, Int.reduceNeg, ↓vD, vU, VE.ev, VE.evs, retvs, tupOf, grab, vfill, vbsl, eqCells, eqCell, veqs, veqs1, vmnx, AV.isCell, AV.isUndef, Nat.reduceEqDiff, Nat.reduceAdd, Nat.reduceSub, Nat.reduceLeDiff, Nat.reduceLT, reduceIte, reduceCtorEq, Nat.reduceBEq]) | (simp (disch := first | assumption | omega | exact Seg.len _ | exact Vec.len _ | exact Leg.len _ | exact num_len _ | exact rowA_len _ | exact rowA_len | exact rowT_len _ | exact rowT_len | exact Seg.len | exact Vec.len | exact Leg.len | exact num_len | exact AV.slen _ _ | rfl) only [rowA, Seg.a, vP]) | (with_reducible (first | refine gsnd (fun _ => ?_) (fun _ => ?_) | refine csnd (fun _ => ?_) (fun _ => ?_) | refine gsd (fun _ => ?_) (fun _ => ?_) | refine csd (fun _ => ?_) (fun _ => ?_) | refine gsn (fun _ => ?_) (fun _ => ?_) | refine csn (fun _ => ?_) (fun _ => ?_))) | (with_reducible refine gs (fun _ => ?_) (fun _ => ?_)) | (with_reducible refine cs_ (fun _ => ?_) (fun _ => ?_)) | (with_reducible refine objQ_i (fun _ _ => ?_); (repeat (with_reducible refine imp_i (fun _ => ?_)))) | ((try with_reducible refine appK_a ?_); first | (with_reducible refine appD_F (by refine ⟨?_, ?_, ?_, ?_⟩ <;> (first | assumption | omega | exact St.has_add (by assumption) | (simp only [ins_has]; exact St.has_add (by assumption)) | (simp only [ins_has, fresh_ins, kill_ins, add_ins] at *; exact St.has_add (by assumption)) | (simp only [*, ins_has, has_full, St.has_add]; done) | (simp [-List.map_take, -List.map_drop, or_imp, forall_and, Seg.a, Vec.a, Leg.a, num, okEl, cells_agg, cells_int, cells_sl, cells_bool, AV.isCell]; done) | (simp; omega))) (fun _ _ => ?_)) | (with_reducible refine appD_V (by refine ⟨?_, ?_, ?_, ?_, ?_⟩ <;> (first | assumption | omega | exact St.has_add (by assumption) | (simp only [ins_has]; exact St.has_add (by assumption)) | (simp only [ins_has, fresh_ins, kill_ins, add_ins] at *; exact St.has_add (by assumption)) | (simp only [*, ins_has, has_full, St.has_add]; done) | (simp [-List.map_take, -List.map_drop, or_imp, forall_and, Seg.a, Vec.a, Leg.a, num, okEl, cells_agg, cells_int, cells_sl, cells_bool, AV.isCell]; done) | (simp; omega))) (fun _ _ => ?_))) | (with_reducible refine freshQ_i (fun _ _ => ?_)) | (with_reducible refine nilQ_i (fun _ _ => ?_)) | (with_reducible first | refine callH_use (head_3) ?_ | refine pureQ_use (head_3) ?_)))
      · rename_i hc
        refine ⟨fun x hx => ?_⟩
        rw [List.take_add_one, List.getElem?_eq_getElem hk] at hx
        rcases List.mem_append.1 hx with hx | hx
        · exact HS.out x hx
        · have e : x = f[k] := by simpa using hx
          rw [e]
          have hin := ((mayF_iff f).1 HM.out).2 f[k] (List.getElem_mem hk)
          unfold inSeg at hin
          rw [Bool.and_eq_true] at hin
          exact small_max hin.2 hc
    · rintro fr2 s2 hf2 hd2 ⟨rfl, h6, HS⟩
      (repeat' (first | (simp (config := { maxDischargeDepth := 16 }) only [*, rowA, vX, Int.reduceLE, Int.reduceLT, Int.reduceGE, Int.reduceGT, Int.reduceBEq, Int.reduceBNe, Int.reduceAdd, Int.reduceSub, Int.reduceMul, Int.reduceNeg, ↓vD, vU, VE.ev, VE.evs, retvs, tupOf, grab, vfill, vbsl, eqCells, eqCell, veqs, veqs1, vmnx, AV.isCell, AV.isUndef, Nat.reduceEqDiff, Nat.reduceAdd, Nat.reduceSub, Nat.reduceLeDiff, Nat.reduceLT, reduceIte, reduceCtorEq, Nat.reduceBEq]) | (simp (disch := first | assumption | omega | exact Seg.len _ | exact Vec.len _ | exact Leg.len _ | exact num_len _ | exact rowA_len _ | exact rowA_len | exact rowT_len _ | exact rowT_len | exact Seg.len | exact Vec.len | exact Leg.len | exact num_len | exact AV.slen _ _ | rfl) only [rowA, vP]) | (with_reducible (first | refine gsnd (fun _ => ?_) (fun _ => ?_) | refine csnd (fun _ => ?_) (fun _ => ?_) | refine gsd (fun _ => ?_) (fun _ => ?_) | refine csd (fun _ => ?_) (fun _ => ?_) | refine gsn (fun _ => ?_) (fun _ => ?_) | refine csn (fun _ => ?_) (fun _ => ?_))) | (with_reducible refine gs (fun _ => ?_) (fun _ => ?_)) | (with_reducible refine cs_ (fun _ => ?_) (fun _ => ?_)) | (with_reducible refine objQ_i (fun _ _ => ?_); (repeat (with_reducible refine imp_i (fun _ => ?_)))) | ((try with_reducible refine appK_a ?_); first | (with_reducible refine appD_F (by refine ⟨?_, ?_, ?_, ?_⟩ <;> (first | assumption | omega | exact St.has_add (by assumption) | (simp only [ins_has]; exact St.has_add (by assumption)) | (simp only [ins_has, fresh_ins, kill_ins, add_ins] at *; exact St.has_add (by assumption)) | (simp only [*, ins_has, has_full, St.has_add]; done) | (simp [-List.map_take, -List.map_drop, or_imp, forall_and, Seg.a, Vec.a, Leg.a, num, okEl, cells_agg, cells_int, cells_sl, cells_bool, AV.isCell]; done) | (simp; omega))) (fun _ _ => ?_)) | (with_reducible refine appD_V (by refine ⟨?_, ?_, ?_, ?_, ?_⟩ <;> (first | assumption | omega | exact St.has_add (by assumption) | (simp only [ins_has]; exact St.has_add (by assumption)) | (simp only [ins_has, fresh_ins, kill_ins, add_ins] at *; exact St.has_add (by assumption)) | (simp only [*, ins_has, has_full, St.has_add]; done) | (simp [-List.map_take, -List.map_drop, or_imp, forall_and, Seg.a, Vec.a, Leg.a, num, okEl, cells_agg, cells_int, cells_sl, cells_bool, AV.isCell]; done) | (simp; omega))) (fun _ _ => ?_))) | (with_reducible refine freshQ_i (fun _ _ => ?_)) | (with_reducible refine nilQ_i (fun _ _ => ?_))))
      refine ⟨fun g hg => ?_⟩
      rw [List.take_add_one, List.getElem?_eq_getElem hi] at hg
      rcases List.mem_append.1 hg with hg | hg
      · exact HG.out g hg
      · have e : g = f := by rw [← hfi]; simpa using hg
        subst e
        have := HS.out
        rw [List.take_length] at this
        exact ⟨by omega, HM.out, this⟩
  · rintro fr s hf hd ⟨rfl, h5, HG⟩
    rw [List.take_length] at HG
    have hgood := HG.out
    have hmay : ∀ f ∈ ls, mayF f = true := fun f hf => (hgood f hf).2.1
    have hsm : ∀ f ∈ ls, ∀ x ∈ f, small 1099511627776 x.v := fun f hf => (hgood f hf).2.2
    have hle : ∀ f ∈ ls, f.length ≤ 1000 := fun f hf => by have := (hgood f hf).1; omega
    have a0 := AddA_c ls (by omega) hle .no
    have b0 := fun t => AddA_c ls.reverse (by simp; omega) (fun f hf => hle f (by simpa using hf)) t
    rw [sum_rev ls hmay hsm (by omega)] at b0
    obtain ⟨l1, l2, l3⟩ := sumR_law ls hmay hsm (by omega)
    have hlen : (sumR ls).1.length ≤ 100000 := by
      have h1 := sumF_len2 ls []
      have h2 := sum_le ls 1000 hle
      have h3 : ls.length * 1000 ≤ 8000 := by omega
      unfold sumR
      split
      · simp at h1; omega
      · simp
    rw [l1] at a0 b0
    have m1 := May_2 (sumR ls).1 (by omega) .no
    rw [l2] at m1
    have s1 := Same_2 (sumR ls).1 (sumR ls).1 (by omega) .no .no
    simp only [sameF, beq_self_eq_true] at s1
    have hR := fun t => At_2 (sumR ls).1 (by omega) .no t
    have hW : ∀ t, wantS t ls v0 = atF (sumR ls).1 t := fun t => by
      rw [want_law t ls v0 0 (by unfold small v0; simp) hmay hsm (by omega), l3 t]
      simp [v0]
    have hA := fun (f : List Seg) (hf : f ∈ ls) t => At_2 f (by have := hle f hf; omega) .no t
    simp only [num] at hR hA
    obtain ⟨D, hD⟩ : ∃ D, (sumR ls).1 = D := ⟨_, rfl⟩
    rw [hD] at a0 b0 m1 s1
    simp only [hD] at hR hW
    have HA := Hid.mk hA
    have HW := Hid.mk hW
    have hl8 : ls.length ≤ 8 := by omega
    have ht40 : ts.length ≤ 40 := by omega
    clear hA hW hD l1 l2 l3 hlen hle hsm hmay hgood HG h8 h40
    (repeat' (first | (simp (config := { maxDischargeDepth := 16 }) only [*, vX, Int.reduceLE, Int.reduceLT, Int.reduceGE, Int.reduceGT, Int.reduceBEq, Int.reduceBNe, Int.reduceAdd, Int.reduceSub, Int.reduceMul, Int.reduceNeg, ↓vD, vU, VE.ev, VE.evs, retvs, tupOf, grab, vfill, vbsl, eqCells, eqCell, veqs, veqs1, vmnx, AV.isCell, AV.isUndef, Nat.reduceEqDiff, Nat.reduceAdd, Nat.reduceSub, Nat.reduceLeDiff, Nat.reduceLT, reduceIte, reduceCtorEq, Nat.reduceBEq]) | (simp (disch := first | assumption | omega | exact Seg.len _ | exact Vec.len _ | exact Leg.len _ | exact num_len _ | exact rowA_len _ | exact rowA_len | exact rowT_len _ | exact rowT_len | exact Seg.len | exact Vec.len | exact Leg.len | exact num_len | exact AV.slen _ _ | rfl) only [vP]) | (with_reducible (first | refine gsnd (fun _ => ?_) (fun _ => ?_) | refine csnd (fun _ => ?_) (fun _ => ?_) | refine gsd (fun _ => ?_) (fun _ => ?_) | refine csd (fun _ => ?_) (fun _ => ?_) | refine gsn (fun _ => ?_) (fun _ => ?_) | refine csn (fun _ => ?_) (fun _ => ?_))) | (with_reducible refine gs (fun _ => ?_) (fun _ => ?_)) | (with_reducible refine cs_ (fun _ => ?_) (fun _ => ?_)) | (with_reducible refine objQ_i (fun _ _ => ?_); (repeat (with_reducible refine imp_i (fun _ => ?_)))) | ((try with_reducible refine appK_a ?_); first | (with_reducible refine appD_F (by refine ⟨?_, ?_, ?_, ?_⟩ <;> (first | assumption | omega | exact St.has_add (by assumption) | (simp only [ins_has]; exact St.has_add (by assumption)) | (simp only [ins_has, fresh_ins, kill_ins, add_ins] at *; exact St.has_add (by assumption)) | (simp only [*, ins_has, has_full, St.has_add]; done) | (simp [-List.map_take, -List.map_drop, or_imp, forall_and, Seg.a, Vec.a, Leg.a, num, okEl, cells_agg, cells_int, cells_sl, cells_bool, AV.isCell]; done) | (simp; omega))) (fun _ _ => ?_)) | (with_reducible refine appD_V (by refine ⟨?_, ?_, ?_, ?_, ?_⟩ <;> (first | assumption | omega | exact St.has_add (by assumption) | (simp only [ins_has]; exact St.has_add (by assumption)) | (simp only [ins_has, fresh_ins, kill_ins, add_ins] at *; exact St.has_add (by assumption)) | (simp only [*, ins_has, has_full, St.has_add]; done) | (simp [-List.map_take, -List.map_drop, or_imp, forall_and, Seg.a, Vec.a, Leg.a, num, okEl, cells_agg, cells_int, cells_sl, cells_bool, AV.isCell]; done) | (simp; omega))) (fun _ _ => ?_))) | (with_reducible refine freshQ_i (fun _ _ => ?_)) | (with_reducible refine nilQ_i (fun _ _ => ?_))))
    refine loopm_of (by simp only [asgL, dsts, List.cons_append, List.nil_append, List.append_nil]; rfl) (by simp only [noR, Bool.and_true, Bool.and_false]; rfl) (fun fr2 s2 => ∃ (j : Nat) (tk : Tok), Ours 1 s s2 tk ∧ fr2.t 9 = .int .i64 ((j : Int) - 1) ∧ fr2.t 8 = .sl ((ls.drop j).reverse.map rowA) tk ∧ j ≤ ls.length) (fun fr2 _ => match fr2.t 9 with | .int _ n => (n + 1).toNat | _ => 0) ?_ ?_
    · exact ⟨ls.length, .full, Ours.full 1 s, by simp [↓vD, vU, VE.ev, VE.evs, retvs, tupOf, grab, vfill, vbsl, eqCells, eqCell, veqs, veqs1, vmnx, AV.isCell, AV.isUndef, Nat.reduceEqDiff, Nat.reduceAdd, Nat.reduceSub, Nat.reduceLeDiff, Nat.reduceLT, reduceIte, reduceCtorEq, Nat.reduceBEq, k_app, k_slc1], by simp [↓vD, vU, VE.ev, VE.evs, retvs, tupOf, grab, vfill, vbsl, eqCells, eqCell, veqs, veqs1, vmnx, AV.isCell, AV.isUndef, Nat.reduceEqDiff, Nat.reduceAdd, Nat.reduceSub, Nat.reduceLeDiff, Nat.reduceLT, reduceIte, reduceCtorEq, Nat.reduceBEq, k_app, k_slc1], by omega⟩
    · rintro fr2 s2 hf2 hd2 ⟨j, tk, ho, h9, h8, hj⟩
      have hts := ho.has
      cases j with
      | succ j =>
        have hjl : j < ls.length := by omega
        have e9 : (((j + 1 : Nat) : Int) - 1) = (j : Int) := by omega
        have hrl : ((ls.drop (j + 1)).reverse.map rowA).length ≤ 8 := by simp; omega
        rw [e9] at h9
        have hel : ∀ x ∈ (ls.drop (j + 1)).reverse.map rowA, x.cells.length = 1 := fun x hx => by obtain ⟨_, _, rfl⟩ := List.mem_map.1 hx; rfl
        have HX := Hid.mk e9
        clear e9
        (repeat' (first | (simp (config := { maxDischargeDepth := 16 }) only [*, rowA, vX, Int.reduceLE, Int.reduceLT, Int.reduceGE, Int.reduceGT, Int.reduceBEq, Int.reduceBNe, Int.reduceAdd, Int.reduceSub, Int.reduceMul, Int.reduceNeg, ↓vD, vU, VE.ev, VE.evs, retvs, tupOf, grab, vfill, vbsl, eqCells, eqCell, veqs, veqs1, vmnx, AV.isCell, AV.isUndef, Nat.reduceEqDiff, Nat.reduceAdd, Nat.reduceSub, Nat.reduceLeDiff, Nat.reduceLT, reduceIte, reduceCtorEq, Nat.reduceBEq]) | (simp (disch := first | assumption | omega | exact Seg.len _ | exact Vec.len _ | exact Leg.len _ | exact num_len _ | exact rowA_len _ | exact rowA_len | exact rowT_len _ | exact rowT_len | exact Seg.len | exact Vec.len | exact Leg.len | exact num_len | exact AV.slen _ _ | rfl) only [rowA, vP]) | (with_reducible (first | refine gsnd (fun _ => ?_) (fun _ => ?_) | refine csnd (fun _ => ?_) (fun _ => ?_) | refine gsd (fun _ => ?_) (fun _ => ?_) | refine csd (fun _ => ?_) (fun _ => ?_) | refine gsn (fun _ => ?_) (fun _ => ?_) | refine csn (fun _ => ?_) (fun _ => ?_))) | (with_reducible refine gs (fun _ => ?_) (fun _ => ?_)) | (with_reducible refine cs_ (fun _ => ?_) (fun _ => ?_)) | (with_reducible refine objQ_i (fun _ _ => ?_); (repeat (with_reducible refine imp_i (fun _ => ?_)))) | ((try with_reducible refine appK_a ?_); first | (with_reducible refine appD_F (by refine ⟨?_, ?_, ?_, ?_⟩ <;> (first | assumption | omega | exact St.has_add (by assumption) | (simp only [ins_has]; exact St.has_add (by assumption)) | (simp only [ins_has, fresh_ins, kill_ins, add_ins] at *; exact St.has_add (by assumption)) | (simp only [*, ins_has, has_full, St.has_add]; done) | (simp [-List.map_take, -List.map_drop, or_imp, forall_and, Seg.a, Vec.a, Leg.a, num, okEl, cells_agg, cells_int, cells_sl, cells_bool, AV.isCell]; done) | (simp; omega))) (fun _ _ => ?_)) | (with_reducible refine appD_V (by refine ⟨?_, ?_, ?_, ?_, ?_⟩ <;> (first | assumption | omega | exact St.has_add (by assumption) | (simp only [ins_has]; exact St.has_add (by assumption)) | (simp only [ins_has, fresh_ins, kill_ins, add_ins] at *; exact St.has_add (by assumption)) | (simp only [*, ins_has, has_full, St.has_add]; done) | (simp [-List.map_take, -List.map_drop, or_imp, forall_and, Seg.a, Vec.a, Leg.a, num, okEl, cells_agg, cells_int, cells_sl, cells_bool, AV.isCell]; done) | (simp; omega))) (fun _ _ => ?_))) | (with_reducible refine freshQ_i (fun _ _ => ?_)) | (with_reducible refine nilQ_i (fun _ _ => ?_))))
        exact ⟨_, St.le.refl _, ⟨j, _, ho.next (by assumption), rfl, by rw [List.drop_eq_getElem_cons hjl, List.reverse_cons, List.map_append]; rfl, by omega⟩, by omega⟩
      | zero =>
        rw [List.drop_zero] at h8
        have e9 : ((0 : Nat) : Int) - 1 = -1 := by omega
        rw [e9] at h9
        clear e9
        have hU := ho.under
        (repeat' (first | (simp (config := { maxDischargeDepth := 16 }) only [*, vX, Int.reduceLE, Int.reduceLT, Int.reduceGE, Int.reduceGT, Int.reduceBEq, Int.reduceBNe, Int.reduceAdd, Int.reduceSub, Int.reduceMul, Int.reduceNeg, ↓vD, vU, VE.ev, VE.evs, retvs, tupOf, grab, vfill, vbsl, eqCells, eqCell, veqs, veqs1, vmnx, AV.isCell, AV.isUndef, Nat.reduceEqDiff, Nat.reduceAdd, Nat.reduceSub, Nat.reduceLeDiff, Nat.reduceLT, reduceIte, reduceCtorEq, Nat.reduceBEq]) | (simp (disch := first | assumption | omega | exact Seg.len _ | exact Vec.len _ | exact Leg.len _ | exact num_len _ | exact rowA_len _ | exact rowA_len | exact rowT_len _ | exact rowT_len | exact Seg.len | exact Vec.len | exact Leg.len | exact num_len | exact AV.slen _ _ | rfl) only [vP]) | (with_reducible (first | refine gsnd (fun _ => ?_) (fun _ => ?_) | refine csnd (fun _ => ?_) (fun _ => ?_) | refine gsd (fun _ => ?_) (fun _ => ?_) | refine csd (fun _ => ?_) (fun _ => ?_) | refine gsn (fun _ => ?_) (fun _ => ?_) | refine csn (fun _ => ?_) (fun _ => ?_))) | (with_reducible refine gs (fun _ => ?_) (fun _ => ?_)) | (with_reducible refine cs_ (fun _ => ?_) (fun _ => ?_)) | (with_reducible refine objQ_i (fun _ _ => ?_); (repeat (with_reducible refine imp_i (fun _ => ?_)))) | ((try with_reducible refine appK_a ?_); first | (with_reducible refine appD_F (by refine ⟨?_, ?_, ?_, ?_⟩ <;> (first | assumption | omega | exact St.has_add (by assumption) | (simp only [ins_has]; exact St.has_add (by assumption)) | (simp only [ins_has, fresh_ins, kill_ins, add_ins] at *; exact St.has_add (by assumption)) | (simp only [*, ins_has, has_full, St.has_add]; done) | (simp [-List.map_take, -List.map_drop, or_imp, forall_and, Seg.a, Vec.a, Leg.a, num, okEl, cells_agg, cells_int, cells_sl, cells_bool, AV.isCell]; done) | (simp; omega))) (fun _ _ => ?_)) | (with_reducible refine appD_V (by refine ⟨?_, ?_, ?_, ?_, ?_⟩ <;> (first | assumption | omega | exact St.has_add (by assumption) | (simp only [ins_has]; exact St.has_add (by assumption)) | (simp only [ins_has, fresh_ins, kill_ins, add_ins] at *; exact St.has_add (by assumption)) | (simp only [*, ins_has, has_full, St.has_add]; done) | (simp [-List.map_take, -List.map_drop, or_imp, forall_and, Seg.a, Vec.a, Leg.a, num, okEl, cells_agg, cells_int, cells_sl, cells_bool, AV.isCell]; done) | (simp; omega))) (fun _ _ => ?_))) | (with_reducible refine freshQ_i (fun _ _ => ?_)) | (with_reducible refine nilQ_i (fun _ _ => ?_)) | (with_reducible first | refine callH_use (a0) ?_ | refine pureQ_use (a0) ?_) | (with_reducible first | refine callH_use (b0 _) ?_ | refine pureQ_use (b0 _) ?_) | (with_reducible first | refine callH_use (s1) ?_ | refine pureQ_use (s1) ?_) | (with_reducible first | refine callH_use (m1) ?_ | refine pureQ_use (m1) ?_)))
        refine loopf_of (len := ts.length) (by simp only [asgL, dsts, List.cons_append, List.nil_append, List.append_nil]; rfl) (by simp only [noR, Bool.and_true, Bool.and_false]; rfl) (by omega) (fun i fr3 s3 => s3 = s2 ∧ fr3.t 14 = .int .i64 i) ?_ ?_ ?_
        · simp [↓vD, vU, VE.ev, VE.evs, retvs, tupOf, grab, vfill, vbsl, eqCells, eqCell, veqs, veqs1, vmnx, AV.isCell, AV.isUndef, Nat.reduceEqDiff, Nat.reduceAdd, Nat.reduceSub, Nat.reduceLeDiff, Nat.reduceLT, reduceIte, reduceCtorEq, Nat.reduceBEq, k_app, k_slc1]
        · rintro i fr3 s3 hi hw3 hf3 hd3 ⟨rfl, h14⟩
          obtain ⟨u, hu⟩ : ∃ u, ts[i] = u := ⟨_, rfl⟩
          (repeat' (first | (simp (config := { maxDischargeDepth := 16 }) only [*, num, vX, Int.reduceLE, Int.reduceLT, Int.reduceGE, Int.reduceGT, Int.reduceBEq, Int.reduceBNe, Int.reduceAdd, Int.reduceSub, Int.reduceMul, Int.reduceNeg, ↓vD, vU, VE.ev, VE.evs, retvs, tupOf, grab, vfill, vbsl, eqCells, eqCell, veqs, veqs1, vmnx, AV.isCell, AV.isUndef, Nat.reduceEqDiff, Nat.reduceAdd, Nat.reduceSub, Nat.reduceLeDiff, Nat.reduceLT, reduceIte, reduceCtorEq, Nat.reduceBEq]) | (simp (disch := first | assumption | omega | exact Seg.len _ | exact Vec.len _ | exact Leg.len _ | exact num_len _ | exact rowA_len _ | exact rowA_len | exact rowT_len _ | exact rowT_len | exact Seg.len | exact Vec.len | exact Leg.len | exact num_len | exact AV.slen _ _ | rfl) only [num, vP]) | (with_reducible (first | refine gsnd (fun _ => ?_) (fun _ => ?_) | refine csnd (fun _ => ?_) (fun _ => ?_) | refine gsd (fun _ => ?_) (fun _ => ?_) | refine csd (fun _ => ?_) (fun _ => ?_) | refine gsn (fun _ => ?_) (fun _ => ?_) | refine csn (fun _ => ?_) (fun _ => ?_))) | (with_reducible refine gs (fun _ => ?_) (fun _ => ?_)) | (with_reducible refine cs_ (fun _ => ?_) (fun _ => ?_)) | (with_reducible refine objQ_i (fun _ _ => ?_); (repeat (with_reducible refine imp_i (fun _ => ?_)))) | ((try with_reducible refine appK_a ?_); first | (with_reducible refine appD_F (by refine ⟨?_, ?_, ?_, ?_⟩ <;> (first | assumption | omega | exact St.has_add (by assumption) | (simp only [ins_has]; exact St.has_add (by assumption)) | (simp only [ins_has, fresh_ins, kill_ins, add_ins] at *; exact St.has_add (by assumption)) | (simp only [*, ins_has, has_full, St.has_add]; done) | (simp [-List.map_take, -List.map_drop, or_imp, forall_and, Seg.a, Vec.a, Leg.a, num, okEl, cells_agg, cells_int, cells_sl, cells_bool, AV.isCell]; done) | (simp; omega))) (fun _ _ => ?_)) | (with_reducible refine appD_V (by refine ⟨?_, ?_, ?_, ?_, ?_⟩ <;> (first | assumption | omega | exact St.has_add (by assumption) | (simp only [ins_has]; exact St.has_add (by assumption)) | (simp only [ins_has, fresh_ins, kill_ins, add_ins] at *; exact St.has_add (by assumption)) | (simp only [*, ins_has, has_full, St.has_add]; done) | (simp [-List.map_take, -List.map_drop, or_imp, forall_and, Seg.a, Vec.a, Leg.a, num, okEl, cells_agg, cells_int, cells_sl, cells_bool, AV.isCell]; done) | (simp; omega))) (fun _ _ => ?_))) | (with_reducible refine freshQ_i (fun _ _ => ?_)) | (with_reducible refine nilQ_i (fun _ _ => ?_))))
          rename_i b15 h15
          refine loopf_of (len := ls.length) (by simp only [asgL, dsts, List.cons_append, List.nil_append, List.append_nil]; rfl) (by simp only [noR, Bool.and_true, Bool.and_false]; rfl) (by omega) (fun k fr4 s4 => ∃ w : Vec, s4 = s3.ins b15 (.cells [.int .i64 w.m, .int .i64 w.c]) ∧ fr4.t 16 = .int .i64 k ∧ Hid (wantS u (ls.drop k) w = atF D u)) ?_ ?_ ?_
          · exact ⟨v0, by simp [v0], by simp [↓vD, vU, VE.ev, VE.evs, retvs, tupOf, grab, vfill, vbsl, eqCells, eqCell, veqs, veqs1, vmnx, AV.isCell, AV.isUndef, Nat.reduceEqDiff, Nat.reduceAdd, Nat.reduceSub, Nat.reduceLeDiff, Nat.reduceLT, reduceIte, reduceCtorEq, Nat.reduceBEq, k_app, k_slc1], ⟨by rw [List.drop_zero]; exact HW.out u⟩⟩
          · rintro k fr4 s4 hk hw4 hf4 hd4 ⟨w, rfl, h16, HK⟩
            have hAt := HA.out ls[k] (List.getElem_mem hk) u
            have hAd : VPure Try.prog 29 [.agg [.int .i64 w.m, .int .i64 w.c], .agg [.int .i64 (atF ls[k] u).m, .int .i64 (atF ls[k] u).c]] (.tup [.agg [.int .i64 (addR w (atF ls[k] u)).1.m, .int .i64 (addR w (atF ls[k] u)).1.c], .int .i64 (addR w (atF ls[k] u)).2]) := Add_1 w.m w.c (atF ls[k] u).m (atF ls[k] u).c
            have hnx : wantS u (ls.drop k) w = wantS u (ls.drop (k + 1)) (addR w (atF ls[k] u)).1 := by rw [List.drop_eq_getElem_cons hk]; rfl
            have HN := Hid.mk hnx
            clear hnx
            (repeat' (first | (simp (config := { maxDischargeDepth := 16 }) only [*, rowA, num, vX, Int.reduceLE, Int.reduceLT, Int.reduceGE, Int.reduceGT, Int.reduceBEq, Int.reduceBNe, Int.reduceAdd, Int.reduceSub, Int.reduceMul, Int.reduceNeg, ↓vD, vU, VE.ev, VE.evs, retvs, tupOf, grab, vfill, vbsl, eqCells, eqCell, veqs, veqs1, vmnx, AV.isCell, AV.isUndef, Nat.reduceEqDiff, Nat.reduceAdd, Nat.reduceSub, Nat.reduceLeDiff, Nat.reduceLT, reduceIte, reduceCtorEq, Nat.reduceBEq]) | (simp (disch := first | assumption | omega | exact Seg.len _ | exact Vec.len _ | exact Leg.len _ | exact num_len _ | exact rowA_len _ | exact rowA_len | exact rowT_len _ | exact rowT_len | exact Seg.len | exact Vec.len | exact Leg.len | exact num_len | exact AV.slen _ _ | rfl) only [rowA, num, vP]) | (with_reducible (first | refine gsnd (fun _ => ?_) (fun _ => ?_) | refine csnd (fun _ => ?_) (fun _ => ?_) | refine gsd (fun _ => ?_) (fun _ => ?_) | refine csd (fun _ => ?_) (fun _ => ?_) | refine gsn (fun _ => ?_) (fun _ => ?_) | refine csn (fun _ => ?_) (fun _ => ?_))) | (with_reducible refine gs (fun _ => ?_) (fun _ => ?_)) | (with_reducible refine cs_ (fun _ => ?_) (fun _ => ?_)) | (with_reducible refine objQ_i (fun _ _ => ?_); (repeat (with_reducible refine imp_i (fun _ => ?_)))) | ((try with_reducible refine appK_a ?_); first | (with_reducible refine appD_F (by refine ⟨?_, ?_, ?_, ?_⟩ <;> (first | assumption | omega | exact St.has_add (by assumption) | (simp only [ins_has]; exact St.has_add (by assumption)) | (simp only [ins_has, fresh_ins, kill_ins, add_ins] at *; exact St.has_add (by assumption)) | (simp only [*, ins_has, has_full, St.has_add]; done) | (simp [-List.map_take, -List.map_drop, or_imp, forall_and, Seg.a, Vec.a, Leg.a, num, okEl, cells_agg, cells_int, cells_sl, cells_bool, AV.isCell]; done) | (simp; omega))) (fun _ _ => ?_)) | (with_reducible refine appD_V (by refine ⟨?_, ?_, ?_, ?_, ?_⟩ <;> (first | assumption | omega | exact St.has_add (by assumption) | (simp only [ins_has]; exact St.has_add (by assumption)) | (simp only [ins_has, fresh_ins, kill_ins, add_ins] at *; exact St.has_add (by assumption)) | (simp only [*, ins_has, has_full, St.has_add]; done) | (simp [-List.map_take, -List.map_drop, or_imp, forall_and, Seg.a, Vec.a, Leg.a, num, okEl, cells_agg, cells_int, cells_sl, cells_bool, AV.isCell]; done) | (simp; omega))) (fun _ _ => ?_))) | (with_reducible refine freshQ_i (fun _ _ => ?_)) | (with_reducible refine nilQ_i (fun _ _ => ?_)) | (with_reducible first | refine callH_use (hAt) ?_ | refine pureQ_use (hAt) ?_) | (with_reducible first | refine callH_use (hAd) ?_ | refine pureQ_use (hAd) ?_)))
            exact ⟨_, St.le.refl _, (addR w (atF ls[k] u)).1, rfl, ⟨by rw [← HN.out]; exact HK.out⟩⟩
          · rintro fr4 s4 hf4 hd4 ⟨w, rfl, h16, HK⟩
            have e : w = atF D u := by have := HK.out; rwa [List.drop_length] at this
            subst e
            (repeat' (first | (simp (config := { maxDischargeDepth := 16 }) only [*, num, vX, Int.reduceLE, Int.reduceLT, Int.reduceGE, Int.reduceGT, Int.reduceBEq, Int.reduceBNe, Int.reduceAdd, Int.reduceSub, Int.reduceMul, Int.reduceNeg, ↓vD, vU, VE.ev, VE.evs, retvs, tupOf, grab, vfill, vbsl, eqCells, eqCell, veqs, veqs1, vmnx, AV.isCell, AV.isUndef, Nat.reduceEqDiff, Nat.reduceAdd, Nat.reduceSub, Nat.reduceLeDiff, Nat.reduceLT, reduceIte, reduceCtorEq, Nat.reduceBEq]) | (simp (disch := first | assumption | omega | exact Seg.len _ | exact Vec.len _ | exact Leg.len _ | exact num_len _ | exact rowA_len _ | exact rowA_len | exact rowT_len _ | exact rowT_len | exact Seg.len | exact Vec.len | exact Leg.len | exact num_len | exact AV.slen _ _ | rfl) only [num, vP]) | (with_reducible (first | refine gsnd (fun _ => ?_) (fun _ => ?_) | refine csnd (fun _ => ?_) (fun _ => ?_) | refine gsd (fun _ => ?_) (fun _ => ?_) | refine csd (fun _ => ?_) (fun _ => ?_) | refine gsn (fun _ => ?_) (fun _ => ?_) | refine csn (fun _ => ?_) (fun _ => ?_))) | (with_reducible refine gs (fun _ => ?_) (fun _ => ?_)) | (with_reducible refine cs_ (fun _ => ?_) (fun _ => ?_)) | (with_reducible refine objQ_i (fun _ _ => ?_); (repeat (with_reducible refine imp_i (fun _ => ?_)))) | ((try with_reducible refine appK_a ?_); first | (with_reducible refine appD_F (by refine ⟨?_, ?_, ?_, ?_⟩ <;> (first | assumption | omega | exact St.has_add (by assumption) | (simp only [ins_has]; exact St.has_add (by assumption)) | (simp only [ins_has, fresh_ins, kill_ins, add_ins] at *; exact St.has_add (by assumption)) | (simp only [*, ins_has, has_full, St.has_add]; done) | (simp [-List.map_take, -List.map_drop, or_imp, forall_and, Seg.a, Vec.a, Leg.a, num, okEl, cells_agg, cells_int, cells_sl, cells_bool, AV.isCell]; done) | (simp; omega))) (fun _ _ => ?_)) | (with_reducible refine appD_V (by refine ⟨?_, ?_, ?_, ?_, ?_⟩ <;> (first | assumption | omega | exact St.has_add (by assumption) | (simp only [ins_has]; exact St.has_add (by assumption)) | (simp only [ins_has, fresh_ins, kill_ins, add_ins] at *; exact St.has_add (by assumption)) | (simp only [*, ins_has, has_full, St.has_add]; done) | (simp [-List.map_take, -List.map_drop, or_imp, forall_and, Seg.a, Vec.a, Leg.a, num, okEl, cells_agg, cells_int, cells_sl, cells_bool, AV.isCell]; done) | (simp; omega))) (fun _ _ => ?_))) | (with_reducible refine freshQ_i (fun _ _ => ?_)) | (with_reducible refine nilQ_i (fun _ _ => ?_)) | (with_reducible first | refine callH_use (hR _) ?_ | refine pureQ_use (hR _) ?_)))
        · rintro fr3 s3 hf3 hd3 ⟨rfl, h14⟩
          (repeat' (first | (simp (config := { maxDischargeDepth := 16 }) only [*, vX, Int.reduceLE, Int.reduceLT, Int.reduceGE, Int.reduceGT, Int.reduceBEq, Int.reduceBNe, Int.reduceAdd, Int.reduceSub, Int.reduceMul, Int.reduceNeg, ↓vD, vU, VE.ev, VE.evs, retvs, tupOf, grab, vfill, vbsl, eqCells, eqCell, veqs, veqs1, vmnx, AV.isCell, AV.isUndef, Nat.reduceEqDiff, Nat.reduceAdd, Nat.reduceSub, Nat.reduceLeDiff, Nat.reduceLT, reduceIte, reduceCtorEq, Nat.reduceBEq]) | (simp (disch := first | assumption | omega | exact Seg.len _ | exact Vec.len _ | exact Leg.len _ | exact num_len _ | exact rowA_len _ | exact rowA_len | exact rowT_len _ | exact rowT_len | exact Seg.len | exact Vec.len | exact Leg.len | exact num_len | exact AV.slen _ _ | rfl) only [vP]) | (with_reducible (first | refine gsnd (fun _ => ?_) (fun _ => ?_) | refine csnd (fun _ => ?_) (fun _ => ?_) | refine gsd (fun _ => ?_) (fun _ => ?_) | refine csd (fun _ => ?_) (fun _ => ?_) | refine gsn (fun _ => ?_) (fun _ => ?_) | refine csn (fun _ => ?_) (fun _ => ?_))) | (with_reducible refine gs (fun _ => ?_) (fun _ => ?_)) | (with_reducible refine cs_ (fun _ => ?_) (fun _ => ?_)) | (with_reducible refine objQ_i (fun _ _ => ?_); (repeat (with_reducible refine imp_i (fun _ => ?_)))) | ((try with_reducible refine appK_a ?_); first | (with_reducible refine appD_F (by refine ⟨?_, ?_, ?_, ?_⟩ <;> (first | assumption | omega | exact St.has_add (by assumption) | (simp only [ins_has]; exact St.has_add (by assumption)) | (simp only [ins_has, fresh_ins, kill_ins, add_ins] at *; exact St.has_add (by assumption)) | (simp only [*, ins_has, has_full, St.has_add]; done) | (simp [-List.map_take, -List.map_drop, or_imp, forall_and, Seg.a, Vec.a, Leg.a, num, okEl, cells_agg, cells_int, cells_sl, cells_bool, AV.isCell]; done) | (simp; omega))) (fun _ _ => ?_)) | (with_reducible refine appD_V (by refine ⟨?_, ?_, ?_, ?_, ?_⟩ <;> (first | assumption | omega | exact St.has_add (by assumption) | (simp only [ins_has]; exact St.has_add (by assumption)) | (simp only [ins_has, fresh_ins, kill_ins, add_ins] at *; exact St.has_add (by assumption)) | (simp only [*, ins_has, has_full, St.has_add]; done) | (simp [-List.map_take, -List.map_drop, or_imp, forall_and, Seg.a, Vec.a, Leg.a, num, okEl, cells_agg, cells_int, cells_sl, cells_bool, AV.isCell]; done) | (simp; omega))) (fun _ _ => ?_))) | (with_reducible refine freshQ_i (fun _ _ => ?_)) | (with_reducible refine nilQ_i (fun _ _ => ?_)) | (with_reducible first | refine callH_use (head_3) ?_ | refine pureQ_use (head_3) ?_)))
end Go.Proofs.Ytddbnncimggogaa.V
end
