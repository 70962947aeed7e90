/- slices.SortStableFunc at livery/api.Seg: whole. -/
import Derived.Test.YtddbnncimggogaaLvSnSeg
import Derived.Test.YtddbnncimggogaaLvSB
namespace Go.Proofs.Ytddbnncimggogaa.StSeg
open Go.RowKit Go.Proofs.YtddbnncimggogaaW.PrintWords Go.Proofs.YtddbnncimggogaaW.PrintLast Go.Proofs.YtddbnncimggogaaW.PrintMore Go.Proofs.Ytddbnncimggogaa.Pb Go.Proofs.Ytddbnncimggogaa.Lv Go.Proofs.Ytddbnncimggogaa.SP
theorem symMerge_calls (gc : Nat) (fst cb : Array Value) (cf : Seg → Seg → Int) (o : SWO (ltB cf)) (g N c L : Nat) (I : World → Prop) (hS : Side Try.prog g gc fst cb cf I)
    (eg : ∀ args w, (callFunc gc args).run Try.prog w = .ok (.enter gc args) w) : ∀ (d : Nat) (a m b : Int) (w : World) (A U V C : List Seg), I w → Row g N (A ++ (U ++ (V ++ C))) w → a = A.length → m = a + U.length → b = m + V.length → 0 < U.length → 0 < V.length → Srt (ltB cf) U → Srt (ltB cf) V → (A ++ (U ++ (V ++ C))).length ≤ 1000000000 → L = (A ++ (U ++ (V ++ C))).length → U.length + V.length ≤ d →
      Calls Try.prog 152 #[.slice (some ⟨g, 0, none⟩) L c, .int .i64 a, .int .i64 m, .int .i64 b, .func (.func gc) fst cb] w (SymPost cf g N I A U V C)
  | 0, a, m, b, w, A, U, V, C, hI, hR, ha, hm0, hb, hU0, hV0, hU, hV, hm, hL, hd => by omega
  | d + 1, a, m, b, w, A, U, V, C, hI, hR, ha, hm0, hb, hU0, hV0, hU, hV, hm, hL, hd => by
    by_cases h1 : U.length = 1
    · obtain ⟨x, rfl⟩ : ∃ x, U = [x] := List.length_eq_one_iff.1 h1
      exact sym_left gc fst cb cf o g N c L I hS eg a m b w hI A V C x hR ha (by simpa using hm0) hb hV0 hV hm hL
    · by_cases h2 : V.length = 1
      · obtain ⟨y, rfl⟩ : ∃ y, V = [y] := List.length_eq_one_iff.1 h2
        exact sym_right gc fst cb cf o g N c L I hS eg a m b w hI A U C y hR ha hm0 (by simpa using hb) (by omega) hU hm hL
      · exact sym_mid gc fst cb cf o g N c L I hS eg d (symMerge_calls gc fst cb cf o g N c L I hS eg d) a m b _ w A U V C hI hR ha hm0 hb (by omega) (by omega) hU hV hm hL hd rfl

set_option maxHeartbeats 4000000 in
set_option maxRecDepth 100000 in
theorem stable_calls (gc : Nat) (fst cb : Array Value) (cf : Seg → Seg → Int) (o : SWO (ltB cf)) (g N c L : Nat) (n : Int) (I : World → Prop) (hS : Side Try.prog g gc fst cb cf I)
    (eg : ∀ args w, (callFunc gc args).run Try.prog w = .ok (.enter gc args) w)
    (xs : List Seg) (w : World) (hI : I w) (hR : Row g N xs w) (hm : xs.length ≤ 1000000000) (hL : L = xs.length) (hn : n = L) :
    Calls Try.prog 139 #[.slice (some ⟨g, 0, none⟩) L c, .int .i64 n, .func (.func gc) fst cb] w fun e w' => e = .returned (.tuple #[]) ∧ I w' ∧ Row g N (sortS (ltB cf) xs) w' := by
  have hnn : n ≤ 1000000000 := by omega
  have hn0 : 0 ≤ n := by omega
  have hxn : (xs.length : Int) = n := by omega
  have HX := Aside0.mk (And.intro hxn (And.intro hL hm))
  have HR := Aside0.mk hR
  have HS := Aside0.mk hS
  have HEG := Aside0.mk eg
  have HO := Aside0.mk o
  have hI0 := hI
  clear hxn hR hS hL hm hn o
  go_enter Try.func139, Try.ntmps139
  go_wp2
  go_loopw [7, 8] (fun v7 v8 wr => ∃ a : Int, v7 = .int .i64 a ∧ v8 = .int .i64 (a + 20) ∧ 0 ≤ a ∧ a ≤ n ∧ I wr ∧ ∃ D R, Aside0 (Row g N (D ++ R) wr ∧ Full (ltB cf) 20 D ∧ Stb (ltB cf) xs (D ++ R) ∧ (D.length : Int) = a)) (fun v7 _ _ => (n - intOf v7).toNat)
  case atStart => exact ⟨0, rfl, rfl, by omega, by omega, hI0, [], xs, ⟨HR.out, Full.nil 20, Stb.refl _, rfl⟩⟩
  case round =>
    clear HR hI hI0
    obtain ⟨a, rfl, rfl, ha0, han, hI, D, R, HD⟩ := hrel
    by_cases hlt : a + 20 ≤ n
    · have hRl : D.length + R.length = xs.length := by have := HD.out.2.2.1.1; simp at this; omega
      have hR20 : 20 ≤ R.length := by have := HD.out.2.2.2; have := HX.out.1; omega
      obtain ⟨M, R', hMR, hM⟩ : ∃ M R', R = M ++ R' ∧ M.length = 20 := ⟨R.take 20, R.drop 20, by rw [List.take_append_drop], by simp; omega⟩
      subst hMR
      have HM := Aside0.mk (And.intro hM hRl)
      clear hRl hR20 hM
      go_wp2_with fail
      refine (insertion_calls gc fst cb cf HO.out g N c L a (a + 20) I _ _ HS.out HEG.out hI HD.out.1 D M R' rfl HD.out.2.2.2.symm (by have := HD.out.2.2.2; have := HM.out.1; omega) (by have := HM.out.2; have := HX.out; simp at *; omega) (by have := HM.out.2; have := HX.out; simp at *; omega)).mono ?_
      rintro e w3 ⟨rfl, hI3, M', hR3, hs3, hk3⟩
      have hl3 := hk3.1
      have HN := Aside0.mk (show Row g N ((D ++ M') ++ R') w3 ∧ Full (ltB cf) 20 (D ++ M') ∧ Stb (ltB cf) xs ((D ++ M') ++ R') ∧ ((D ++ M').length : Int) = a + 20 from
        ⟨by simpa using hR3, HD.out.2.1.snoc (by have := HM.out.1; omega) hs3, by
          refine HD.out.2.2.1.trans ?_
          rw [List.append_assoc]
          exact Stb.append (Stb.refl _) (Stb.append hk3 (Stb.refl _)), by have := HD.out.2.2.2; have := HM.out.1; simp; omega⟩)
      clear hR3 hs3 hk3 hl3 HD HM hI
      go_wp2
      go_roundw
      case rel => exact ⟨a + 20, rfl, rfl, by omega, by omega, hI3, D ++ M', R', HN⟩
      case measure => simp [intOf]; omega
    · go_wp2_with fail
      refine (insertion_calls gc fst cb cf HO.out g N c L a n I _ _ HS.out HEG.out hI HD.out.1 D R [] (by simp) HD.out.2.2.2.symm (by have := HD.out.2.2.1.1; have := HX.out; simp at *; omega) (by have := HD.out.2.2.1.1; have := HX.out; simp at *; omega) (by have := HD.out.2.2.1.1; have := HX.out; simp at *; omega)).mono ?_
      rintro e w3 ⟨rfl, hI3, M', hR3, hs3, hk3⟩
      have hl3 := hk3.1
      have HB := Aside0.mk (show ∃ ys, Row g N ys w3 ∧ Bk (ltB cf) 20 ys ∧ Stb (ltB cf) xs ys from ⟨D ++ M', by simpa using hR3,
        HD.out.2.1 _ (Bk.last M' hs3 (by have := HD.out.2.2; have := HX.out.1; have := HD.out.2.2.1.1; simp at this; omega)), HD.out.2.2.1.trans (Stb.append (Stb.refl _) hk3)⟩)
      clear hR3 hs3 hk3 hl3 HD hI
      go_wp2
      go_loopw [6, 7, 8, 9] (fun v6 _ _ _ wr => ∃ s : Int, v6 = .int .i64 s ∧ 20 ≤ s ∧ s ≤ 2000000000 ∧ I wr ∧ Aside0 (∃ ys, Row g N ys wr ∧ Bk (ltB cf) s.toNat ys ∧ Stb (ltB cf) xs ys)) (fun v6 _ _ _ _ => (n - intOf v6).toNat)
      case atStart => exact ⟨20, rfl, by omega, by omega, hI3, HB⟩
      case round =>
        clear HB hI3
        obtain ⟨s, rfl, hs0, hsn, hI, HB⟩ := hrel
        by_cases hsl : s < n
        · go_wp2
          go_loopw [7, 8] (fun v7 v8 wr => ∃ a : Int, v7 = .int .i64 a ∧ v8 = .int .i64 (a + 2 * s) ∧ 0 ≤ a ∧ a ≤ n ∧ I wr ∧ ∃ E R, Aside0 (Row g N (E ++ R) wr ∧ Full (ltB cf) (2 * s).toNat E ∧ Bk (ltB cf) s.toNat R ∧ Stb (ltB cf) xs (E ++ R) ∧ (E.length : Int) = a)) (fun v7 _ _ => (n - intOf v7).toNat)
          case atStart =>
            obtain ⟨ys, h1, h2, h3⟩ := HB.out
            exact ⟨0, rfl, by simp, by omega, by omega, hI, [], ys, ⟨h1, Full.nil _, h2, h3, rfl⟩⟩
          case round =>
            clear HB hI
            obtain ⟨a, rfl, rfl, ha0', han', hI, E_, R', HE⟩ := hrel
            have hlen : (E_.length : Int) + R'.length = n := by have := HE.out.2.2.2.1.1; have := HX.out; simp at *; omega
            have HLN := Aside0.mk hlen
            clear hlen
            by_cases hlt2 : a + 2 * s ≤ n
            · have h2s : 2 * s.toNat ≤ R'.length := by have := HE.out.2.2.2.2; have := HLN.out; omega
              obtain ⟨U, V, R2, hRR, hU, hV, sU, sV, hB2⟩ := HE.out.2.2.1.two h2s
              subst hRR
              have HM := Aside0.mk (And.intro hU (And.intro hV (And.intro sU (And.intro sV hB2))))
              clear hU hV sU sV hB2 h2s
              go_wp2_with fail
              refine (symMerge_calls gc fst cb cf HO.out g N c L I HS.out HEG.out _ a (a + s) (a + 2 * s) _ E_ U V R2 hI HE.out.1 (by have := HE.out.2.2.2.2; omega) (by have := HM.out.1; omega) (by have := HM.out.2.1; omega) (by have := HM.out.1; omega) (by have := HM.out.2.1; omega) HM.out.2.2.1 HM.out.2.2.2.1 (by have := HLN.out; have := HX.out; simp at *; omega) (by have := HLN.out; have := HX.out; simp at *; omega) (Nat.le_refl _)).mono ?_
              rintro e w4 ⟨rfl, hI4, M, hR4, hs4, hk4⟩
              have hl4 := hk4.1
              have HN := Aside0.mk (show Row g N ((E_ ++ M) ++ R2) w4 ∧ Full (ltB cf) (2 * s).toNat (E_ ++ M) ∧ Bk (ltB cf) s.toNat R2 ∧ Stb (ltB cf) xs ((E_ ++ M) ++ R2) ∧ ((E_ ++ M).length : Int) = a + 2 * s from
                ⟨by simpa using hR4, HE.out.2.1.snoc (by have := HM.out; simp at hl4; omega) hs4, HM.out.2.2.2.2, by
                  refine HE.out.2.2.2.1.trans ?_
                  rw [List.append_assoc, ← List.append_assoc U]
                  exact Stb.append (Stb.refl _) (Stb.append hk4 (Stb.refl _)), by have := HE.out.2.2.2.2; have := HM.out; simp at *; omega⟩)
              clear hR4 hs4 hk4 hl4 HE HM HLN hI
              go_wp2
              go_roundw
              case rel => exact ⟨a + 2 * s, rfl, by congr 1, by omega, by omega, hI4, E_ ++ M, R2, HN⟩
              case measure => simp [intOf]; omega
            · by_cases hml : a + s < n
              · have h1s : s.toNat < R'.length := by have := HE.out.2.2.2.2; have := HLN.out; omega
                obtain ⟨U, V, hRR, hU, hV, hV2, sU, sV⟩ := HE.out.2.2.1.tail h1s (by have := HE.out.2.2.2.2; have := HLN.out; omega)
                subst hRR
                have HM := Aside0.mk (And.intro hU (And.intro hV (And.intro sU (And.intro sV hV2))))
                clear hU hV sU sV hV2 h1s
                go_wp2_with fail
                refine (symMerge_calls gc fst cb cf HO.out g N c L I HS.out HEG.out _ a (a + s) n _ E_ U V [] hI (by simpa using HE.out.1) (by have := HE.out.2.2.2.2; omega) (by have := HM.out.1; omega) (by have := HM.out.1; have := HLN.out; have := HE.out.2.2.2.2; simp at *; omega) (by have := HM.out.1; omega) HM.out.2.1 HM.out.2.2.1 HM.out.2.2.2.1 (by have := HLN.out; have := HX.out; simp at *; omega) (by have := HLN.out; have := HX.out; simp at *; omega) (Nat.le_refl _)).mono ?_
                rintro e w4 ⟨rfl, hI4, M, hR4, hs4, hk4⟩
                have hl4 := hk4.1
                have HN := Aside0.mk (show ∃ ys, Row g N ys w4 ∧ Bk (ltB cf) (s * 2).toNat ys ∧ Stb (ltB cf) xs ys from
                  ⟨E_ ++ M, by simpa using hR4, by
                    rw [show (s * 2).toNat = (2 * s).toNat by omega]
                    exact HE.out.2.1 _ (Bk.last M hs4 (by have := HM.out; simp at hl4; omega)), HE.out.2.2.2.1.trans (Stb.append (Stb.refl _) hk4)⟩)
                clear hR4 hs4 hk4 hl4 HE HM HLN hI
                go_wp2
                go_roundw
                case rel => exact ⟨s * 2, rfl, by omega, by omega, hI4, HN⟩
                case measure => simp [intOf]; omega
              · have HN := Aside0.mk (show ∃ ys, Row g N ys wr ∧ Bk (ltB cf) (s * 2).toNat ys ∧ Stb (ltB cf) xs ys from
                  ⟨E_ ++ R', HE.out.1, by
                    rw [show (s * 2).toNat = (2 * s).toNat by omega]
                    have hl : R'.length ≤ s.toNat := by have := HE.out.2.2.2.2; have := HLN.out; omega
                    exact HE.out.2.1 _ (Bk.last R' (HE.out.2.2.1.small hl (by omega)) (by omega)), HE.out.2.2.2.1⟩)
                clear HE HLN
                go_wp2
                go_roundw
                case rel => exact ⟨s * 2, rfl, by omega, by omega, hI, HN⟩
                case measure => simp [intOf]; omega
        · have HF : Aside0 (Row g N (sortS (ltB cf) xs) wr) := by
            obtain ⟨ys, h1, h2, h3⟩ := HB.out
            have hl : ys.length ≤ s.toNat := by have := h3.1; have := HX.out; omega
            rw [← sortS_of HO.out (h2.small hl (by omega)) h3]
            exact ⟨h1⟩
          clear HB
          go_wp2
          go_end0
          exact ⟨rfl, hI, HF.out⟩
set_option maxHeartbeats 4000000 in
set_option maxRecDepth 100000 in
theorem sortStable_calls (gc : Nat) (fst cb : Array Value) (cf : Seg → Seg → Int) (o : SWO (ltB cf)) (g N c L : Nat) (I : World → Prop) (hS : Side Try.prog g gc fst cb cf I)
    (eg : ∀ args w, (callFunc gc args).run Try.prog w = .ok (.enter gc args) w)
    (xs : List Seg) (w : World) (hI : I w) (hR : Row g N xs w) (hm : xs.length ≤ 1000000000) (hL : L = xs.length) :
    Calls Try.prog 102 #[.slice (some ⟨g, 0, none⟩) L c, .func (.func gc) fst cb] w fun e w' => e = .returned (.tuple #[]) ∧ I w' ∧ Row g N (sortS (ltB cf) xs) w' := by
  have h := stable_calls gc fst cb cf o g N c L L I hS eg xs w hI hR hm hL rfl
  have H := Aside0.mk h
  clear h hS hR eg o hL hm
  go_enter Try.func102, Try.ntmps102
  go_wp2_with fail
  refine H.out.mono ?_
  rintro e w' ⟨rfl, h1, h2⟩
  have H2 := Aside0.mk h2
  clear h2
  go_wp2
  go_end0
  exact ⟨rfl, h1, H2.out⟩

set_option maxHeartbeats 400000 in
set_option maxRecDepth 100000 in
theorem insertion_nil (gc c : Nat) (fst cb : Array Value) (w : World) : Calls Try.prog 151 #[.slice none 0 c, .int .i64 0, .int .i64 0, .func (.func gc) fst cb] w fun e w' => e = .returned (.tuple #[]) ∧ w' = w := by
  go_enter Try.func151, Try.ntmps151
  go_wp2
  refine wp_loop_rounds 2 ?_
  rw [rounds_succ]
  go_wp2
  go_end0
  exact ⟨rfl, rfl⟩
set_option maxHeartbeats 400000 in
set_option maxRecDepth 100000 in
theorem stable_nil (gc c : Nat) (fst cb : Array Value) (w : World) : Calls Try.prog 139 #[.slice none 0 c, .int .i64 0, .func (.func gc) fst cb] w fun e w' => e = .returned (.tuple #[]) ∧ w' = w := by
  go_enter Try.func139, Try.ntmps139
  go_wp2
  refine wp_loop_rounds 2 ?_
  rw [rounds_succ]
  go_wp2_with fail
  refine (insertion_nil gc c fst cb _).mono ?_
  rintro e w' ⟨rfl, rfl⟩
  go_wp2
  refine wp_loop_rounds 2 ?_
  rw [rounds_succ]
  go_wp2
  go_end0
  exact ⟨rfl, rfl⟩
set_option maxHeartbeats 400000 in
set_option maxRecDepth 100000 in
theorem sortStable_nil (gc c : Nat) (fst cb : Array Value) (w : World) : Calls Try.prog 102 #[.slice none 0 c, .func (.func gc) fst cb] w fun e w' => e = .returned (.tuple #[]) ∧ w' = w := by
  go_enter Try.func102, Try.ntmps102
  go_wp2_with fail
  refine (stable_nil gc c fst cb _).mono ?_
  rintro e w' ⟨rfl, rfl⟩
  go_wp2
  go_end0
  exact ⟨rfl, rfl⟩

end Go.Proofs.Ytddbnncimggogaa.StSeg
