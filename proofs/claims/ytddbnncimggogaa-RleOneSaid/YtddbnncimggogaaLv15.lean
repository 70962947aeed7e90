/- liverylaw02.RleOne, walked. -/
import Derived.Test.YtddbnncimggogaaLv11
import Derived.Test.YtddbnncimggogaaLv14
namespace Go.Proofs.Ytddbnncimggogaa.Lv
open Go.RowKit Go.Proofs.YtddbnncimggogaaW.PrintWords Go.Proofs.YtddbnncimggogaaW.PrintLast Go.Proofs.YtddbnncimggogaaW.PrintMore Go.Proofs.Ytddbnncimggogaa.Pb Go.Proofs.Ytddbnncimggogaa.SP Go.Proofs.Ytddbnncimggogaa.StSeg
attribute [local go_sem high] eqA28
set_option maxHeartbeats 4000000 in
set_option maxRecDepth 100000 in
theorem one_calls (A : Option Addr) (c : Nat) (xs : List Seg) (A' : Option Addr) (c' : Nat) (ys : List Seg) (w : World) (HC : Kd.C kSeg w A xs.length xs) (HC' : Kd.C kSeg w A' ys.length ys) :
    Calls Try.prog 4 #[.slice A xs.length c, .slice A' ys.length c'] w fun e w' => e = .returned (.bool true) ∧ Below w.heap.size w w' := by
  have hu30 := Try.underlying30
  have hu28 := Try.underlying28
  obtain ⟨n, hn⟩ : ∃ n : Int, n = (xs.length : Int) := ⟨_, rfl⟩
  obtain ⟨n', hn'⟩ : ∃ n' : Int, n' = (ys.length : Int) := ⟨_, rfl⟩
  have hnx : (xs.length : Int) = n := hn.symm
  have hnx' : (ys.length : Int) = n' := hn'.symm
  have HN := Aside0.mk (And.intro hn hn')
  clear hn hn'
  by_cases h60 : n > 60 ∨ n' > 60
  · clear HC HC'
    by_cases ha : 60 < n
    · have hd : decide (60 < n) = true := decide_eq_true ha
      clear h60
      go_enter Try.func4, Try.ntmps4
      go_wp2_with fail
      refine (head_calls _).mono ?_
      rintro e w1 ⟨rfl, hb⟩
      have HB := Aside0.mk hb
      clear hb
      go_wp2
      go_ret
      exact ⟨rfl, HB.out⟩
    · have hb' : 60 < n' := by omega
      have hd : decide (60 < n) = false := decide_eq_false ha
      have hd' : decide (60 < n') = true := decide_eq_true hb'
      clear h60
      go_enter Try.func4, Try.ntmps4
      go_wp2_with fail
      refine (head_calls _).mono ?_
      rintro e w1 ⟨rfl, hb⟩
      have HB := Aside0.mk hb
      clear hb
      go_wp2
      go_ret
      exact ⟨rfl, HB.out⟩
  · have ha : ¬ 60 < n := by omega
    have hb' : ¬ 60 < n' := by omega
    have hd : decide (60 < n) = false := decide_eq_false ha
    have hd' : decide (60 < n') = false := decide_eq_false hb'
    have HOF := Aside0.mk (of_calls A c xs w HC (by omega))
    have HOG := Aside0.mk (fun W (hb : Below w.heap.size w W) => of_calls A' c' ys W (Kd.C_below HC' hb) (by omega))
    clear HC HC' h60
    go_enter Try.func4, Try.ntmps4
    go_wp2_with fail
    refine HOF.out.mono ?_
    rintro e w1 h
    clear HOF
    have hf : ∃ (v : Value) (k : Int), e = .returned (.tuple #[v, .int .i64 k]) ∧ Below w.heap.size w w1 ∧ (k = 0 ∧ (∃ A1 c1, v = .slice A1 (foldF xs).length c1 ∧ (foldF xs).length ≤ c1 ∧ Kd.C kSeg w1 A1 (foldF xs).length (foldF xs)) ∨ k = 10) := by
      rcases h with ⟨_, v, rfl, hv, hb⟩ | ⟨_, rfl, hb⟩
      · obtain ⟨A1, c1, rfl, hc1, hC1⟩ := Kd.R_reads hv
        exact ⟨_, _, rfl, hb, .inl ⟨rfl, A1, c1, rfl, hc1, hC1⟩⟩
      · exact ⟨_, _, rfl, hb, .inr rfl⟩
    obtain ⟨v, k, rfl, hb, hk⟩ := hf
    have HB1 := Aside0.mk hb
    have HK := Aside0.mk hk
    clear h hb hk
    go_wp2_with fail
    refine (HOG.out _ HB1.out).mono ?_
    rintro e w2 h
    clear HOG
    have hf : ∃ (v : Value) (k : Int), e = .returned (.tuple #[v, .int .i64 k]) ∧ Below w1.heap.size w1 w2 ∧ (k = 0 ∧ (∃ A1 c1, v = .slice A1 (foldF ys).length c1 ∧ (foldF ys).length ≤ c1 ∧ Kd.C kSeg w2 A1 (foldF ys).length (foldF ys)) ∨ k = 10) := by
      rcases h with ⟨_, v, rfl, hv, hb⟩ | ⟨_, rfl, hb⟩
      · obtain ⟨A1, c1, rfl, hc1, hC1⟩ := Kd.R_reads hv
        exact ⟨_, _, rfl, hb, .inl ⟨rfl, A1, c1, rfl, hc1, hC1⟩⟩
      · exact ⟨_, _, rfl, hb, .inr rfl⟩
    obtain ⟨v', k', rfl, hb, hk'⟩ := hf
    have HB2 := Aside0.mk (below_step HB1.out hb)
    have HB12 := Aside0.mk hb
    have HK' := Aside0.mk hk'
    clear h hb hk' HB1
    rcases HK.out with ⟨rfl, A1, c1, rfl, hc1, hC1⟩ | rfl
    · rcases HK'.out with ⟨rfl, A2, c2, rfl, hc2, hC2⟩ | rfl
      · obtain ⟨F, hF⟩ : ∃ F, F = foldF xs := ⟨_, rfl⟩
        obtain ⟨G, hG⟩ : ∃ G, G = foldF ys := ⟨_, rfl⟩
        have hFl : F.length ≤ xs.length := by rw [hF]; exact foldF_len xs
        have hGl : G.length ≤ ys.length := by rw [hG]; exact foldF_len ys
        have hlaw := alike_same xs ys
        rw [← hF, ← hG] at hlaw
        rw [← hF] at hc1 hC1 ⊢
        rw [← hG] at hc2 hC2 ⊢
        obtain ⟨m, hm⟩ : ∃ m : Int, m = (F.length : Int) := ⟨_, rfl⟩
        obtain ⟨m', hm'⟩ : ∃ m' : Int, m' = (G.length : Int) := ⟨_, rfl⟩
        have hmx : (F.length : Int) = m := hm.symm
        have hmx' : (G.length : Int) = m' := hm'.symm
        have hm0 : 0 ≤ m := by omega
        have hm60 : m ≤ 60 := by omega
        have hm0' : 0 ≤ m' := by omega
        have hm60' : m' ≤ 60 := by omega
        have hmm : m = (F.length : Int) ∧ m ≤ 60 := ⟨hm, hm60⟩
        have hmm' : m' = (G.length : Int) ∧ m' ≤ 60 := ⟨hm', hm60'⟩
        have HFF := Aside0.mk (And.intro hc1 (And.intro (Kd.C_below hC1 HB12.out) hmm))
        have HGG := Aside0.mk (And.intro hc2 (And.intro hC2 hmm'))
        have HLAW := Aside0.mk hlaw
        obtain ⟨q1, hq1⟩ : ∃ q1, q1 = alikeB F G := ⟨_, rfl⟩
        obtain ⟨q2, hq2⟩ : ∃ q2, q2 = (q1 && alikeB G F) := ⟨_, rfl⟩
        have HQ1 := Aside0.mk hq1
        have HQ2 := Aside0.mk hq2
        have HBS : Aside0 (Below w2.heap.size w2 w2) := ⟨Below.refl _ _⟩
        clear hc1 hC1 hc2 hC2 hF hG hFl hGl hlaw hm hm' hmm hmm' hq1 hq2 HK HK' HB12
        go_wp2
        go_loopw [9, 10] (fun v9 v10 wr => ∃ (al : Bool) (i : Int), v9 = .bool al ∧ v10 = .int .i64 i ∧ 0 ≤ i ∧ i ≤ m ∧ Aside0 (Below w2.heap.size w2 wr ∧ (al && alikeB (F.drop i.toNat) G) = q1)) (fun _ v10 _ => (m - intOf v10).toNat)
        case atStart => exact ⟨true, 0, rfl, rfl, by omega, by omega, ⟨HBS.out, by rw [HQ1.out]; rfl⟩⟩
        case round =>
          clear HBS
          obtain ⟨al, i, rfl, rfl, hi0, hin, HL⟩ := hrel
          by_cases hlt : i < m
          · have hix : i < ((F).length : Int) := by have := HFF.out.2.2; omega
            have hdr := drop_rd F i hi0 hix
            obtain ⟨x, hx⟩ : ∃ x, x = rd_T30 F i := ⟨_, rfl⟩
            rw [show rdE F i = x from hx.symm] at hdr
            have hal : (al && vecB (atF G x.f0) x.f1 && alikeB (F.drop (i + 1).toNat) G) = q1 := by
              rw [← HL.out.2, hdr]
              simp only [alikeB, List.all_cons, Bool.and_assoc]
            have HAL := Aside0.mk hal
            have HBW := Aside0.mk HL.out.1
            have inst : Inhabited (InB wr) := inferInstance
            cases al with
            | false =>
              clear hdr hal hx HL
              go_wp2_with fail
              refine wp_region_inB (by kernel_rfl) (by kernel_rfl) ?_
              repeat (go_big_quiet_step (fail))
              refine wpQuiet_nil ?_
              rintro _ ⟨⟨w6, hb6⟩, rfl⟩
              try dsimp only
              have HK2 := Aside0.mk (And.intro (below_step HBW.out hb6) (show (false && alikeB (F.drop (i + 1).toNat) G) = q1 from by have := HAL.out; simpa using this))
              clear hb6 HBW HAL inst
              go_wp2
              go_roundw
              case rel => exact ⟨false, i + 1, rfl, rfl, by omega, by omega, HK2⟩
              case measure => simp [intOf]; omega
            | true =>
              obtain ⟨ad, e, x0, x1, x2⟩ := at_T30 (Kd.C_below HFF.out.2.1 HBW.out) i hi0 hix
              cases e
              rw [← hx] at x0 x1 x2
              have p0 := fun p : InB wr => InB.cell x0 p
              have p1 := fun p : InB wr => InB.cell x1 p
              have p2 := fun p : InB wr => InB.cell x2 p
              obtain ⟨sm, hsm⟩ : ∃ sm, sm = (atF G x.f0).f0 := ⟨_, rfl⟩
              obtain ⟨sc, hsc⟩ : ∃ sc, sc = (atF G x.f0).f1 := ⟨_, rfl⟩
              have hat : atF G x.f0 = ⟨sm, sc⟩ := by rw [hsm, hsc]
              have HAT := Aside0.mk (fun p : InB wr => at_calls' A2 c2 G x.f0 p.W sm sc hat (Kd.C_below (Kd.C_below HGG.out.2.1 HBW.out) p.below) HGG.out.1 (by have := HGG.out.2.2; omega))
              obtain ⟨qb, hqb⟩ : ∃ qb, qb = (sm == x.f1.f0 && sc == x.f1.f1) := ⟨_, rfl⟩
              have hal2 : (qb && alikeB (F.drop (i + 1).toNat) G) = q1 := by
                have := HAL.out
                rw [hat] at this
                rw [hqb]
                simpa [vecB] using this
              have HA2 := Aside0.mk hal2
              have HQB := Aside0.mk hqb
              clear hdr hal hx HL x0 x1 x2 hat hsm hsc hal2 hqb HAL
              go_wp2_with fail
              refine wp_region_inB (by kernel_rfl) (by kernel_rfl) ?_
              repeat (quiet_step ((go_at_call 17; exact Calls.inB (HAT.out _))))
              refine wpQuiet_nil ?_
              rintro _ ⟨⟨w6, hb6⟩, rfl⟩
              try dsimp only
              have HK2 := Aside0.mk (And.intro (below_step HBW.out hb6) HA2.out)
              clear hb6 HBW HA2 inst p0 p1 p2 HAT
              rw [← HQB.out]
              clear HQB
              go_wp2
              go_roundw
              case rel => exact ⟨qb, i + 1, rfl, rfl, by omega, by omega, HK2⟩
              case measure => simp [intOf]; omega
          · have hal : al = q1 := by
              have := HL.out.2
              rw [List.drop_of_length_le (by have := HFF.out.2.2.1; omega)] at this
              simpa [alikeB] using this
            have HBS := Aside0.mk HL.out.1
            have HAS : Aside0 ((al && alikeB (G.drop (0 : Int).toNat) F) = q2) := ⟨by rw [hal, HQ2.out]; rfl⟩
            clear HL hal
            go_wp2
            go_loopw [9, 11] (fun v9 v10 wr => ∃ (al : Bool) (i : Int), v9 = .bool al ∧ v10 = .int .i64 i ∧ 0 ≤ i ∧ i ≤ m' ∧ Aside0 (Below w2.heap.size w2 wr ∧ (al && alikeB (G.drop i.toNat) F) = q2)) (fun _ v10 _ => (m' - intOf v10).toNat)
            case atStart => exact ⟨_, 0, rfl, rfl, by omega, by omega, ⟨HBS.out, HAS.out⟩⟩
            case round =>
              clear HBS HAS
              obtain ⟨al, i, rfl, rfl, hi0, hin, HL⟩ := hrel
              by_cases hlt : i < m'
              · have hix : i < ((G).length : Int) := by have := HGG.out.2.2; omega
                have hdr := drop_rd G i hi0 hix
                obtain ⟨x, hx⟩ : ∃ x, x = rd_T30 G i := ⟨_, rfl⟩
                rw [show rdE G i = x from hx.symm] at hdr
                have hal : (al && vecB (atF F x.f0) x.f1 && alikeB (G.drop (i + 1).toNat) F) = q2 := by
                  rw [← HL.out.2, hdr]
                  simp only [alikeB, List.all_cons, Bool.and_assoc]
                have HAL := Aside0.mk hal
                have HBW := Aside0.mk HL.out.1
                have inst : Inhabited (InB wr) := inferInstance
                cases al with
                | false =>
                  clear hdr hal hx HL
                  go_wp2_with fail
                  refine wp_region_inB (by kernel_rfl) (by kernel_rfl) ?_
                  repeat (go_big_quiet_step (fail))
                  refine wpQuiet_nil ?_
                  rintro _ ⟨⟨w6, hb6⟩, rfl⟩
                  try dsimp only
                  have HK2 := Aside0.mk (And.intro (below_step HBW.out hb6) (show (false && alikeB (G.drop (i + 1).toNat) F) = q2 from by have := HAL.out; simpa using this))
                  clear hb6 HBW HAL inst
                  go_wp2
                  go_roundw
                  case rel => exact ⟨false, i + 1, rfl, rfl, by omega, by omega, HK2⟩
                  case measure => simp [intOf]; omega
                | true =>
                  obtain ⟨ad, e, x0, x1, x2⟩ := at_T30 (Kd.C_below HGG.out.2.1 HBW.out) i hi0 hix
                  cases e
                  rw [← hx] at x0 x1 x2
                  have p0 := fun p : InB wr => InB.cell x0 p
                  have p1 := fun p : InB wr => InB.cell x1 p
                  have p2 := fun p : InB wr => InB.cell x2 p
                  obtain ⟨sm, hsm⟩ : ∃ sm, sm = (atF F x.f0).f0 := ⟨_, rfl⟩
                  obtain ⟨sc, hsc⟩ : ∃ sc, sc = (atF F x.f0).f1 := ⟨_, rfl⟩
                  have hat : atF F x.f0 = ⟨sm, sc⟩ := by rw [hsm, hsc]
                  have HAT := Aside0.mk (fun p : InB wr => at_calls' A1 c1 F x.f0 p.W sm sc hat (Kd.C_below (Kd.C_below HFF.out.2.1 HBW.out) p.below) HFF.out.1 (by have := HFF.out.2.2; omega))
                  obtain ⟨qb, hqb⟩ : ∃ qb, qb = (sm == x.f1.f0 && sc == x.f1.f1) := ⟨_, rfl⟩
                  have hal2 : (qb && alikeB (G.drop (i + 1).toNat) F) = q2 := by
                    have := HAL.out
                    rw [hat] at this
                    rw [hqb]
                    simpa [vecB] using this
                  have HA2 := Aside0.mk hal2
                  have HQB := Aside0.mk hqb
                  clear hdr hal hx HL x0 x1 x2 hat hsm hsc hal2 hqb HAL
                  go_wp2_with fail
                  refine wp_region_inB (by kernel_rfl) (by kernel_rfl) ?_
                  repeat (quiet_step ((go_at_call 17; exact Calls.inB (HAT.out _))))
                  refine wpQuiet_nil ?_
                  rintro _ ⟨⟨w6, hb6⟩, rfl⟩
                  try dsimp only
                  have HK2 := Aside0.mk (And.intro (below_step HBW.out hb6) HA2.out)
                  clear hb6 HBW HA2 inst p0 p1 p2 HAT
                  rw [← HQB.out]
                  clear HQB
                  go_wp2
                  go_roundw
                  case rel => exact ⟨qb, i + 1, rfl, rfl, by omega, by omega, HK2⟩
                  case measure => simp [intOf]; omega
              · have hal : al = q2 := by
                  have := HL.out.2
                  rw [List.drop_of_length_le (by have := HGG.out.2.2.1; omega)] at this
                  simpa [alikeB] using this
                have hsame : al = sameB F G := by rw [hal, HQ2.out, HQ1.out]; exact HLAW.out
                obtain ⟨sb, hsb⟩ : ∃ sb, sb = sameB F G := ⟨_, rfl⟩
                rw [← hsb] at hsame
                subst hsame
                have HSB := Aside0.mk (show sameB F G = al ∧ sameB G F = al ∧ sameB F F = true from ⟨hsb.symm, by rw [sameB_comm]; exact hsb.symm, sameB_self F⟩)
                have HBW := Aside0.mk HL.out.1
                have h60F : F.length ≤ 1000000000 := by have := HFF.out.2.2; omega
                have h60G : G.length ≤ 1000000000 := by have := HGG.out.2.2; omega
                clear hal hsb HL HQ1 HQ2 HLAW
                go_wp2_with fail
                refine (same_calls A1 c1 F A2 c2 G _ (Kd.C_below HFF.out.2.1 HBW.out) HFF.out.1 (Kd.C_below HGG.out.2.1 HBW.out) HGG.out.1 h60F).mono ?_
                rintro e w3 ⟨rfl, hb⟩
                rw [HSB.out.1]
                have HBX := Aside0.mk (below_step HBW.out hb)
                clear HBW hb
                go_wp2_with fail
                refine (same_calls A1 c1 F A2 c2 G _ (Kd.C_below HFF.out.2.1 HBX.out) HFF.out.1 (Kd.C_below HGG.out.2.1 HBX.out) HGG.out.1 h60F).mono ?_
                rintro e w4 ⟨rfl, hb⟩
                rw [HSB.out.1]
                have HBY := Aside0.mk (below_step HBX.out hb)
                clear HBX hb
                go_wp2_with fail
                refine (same_calls A2 c2 G A1 c1 F _ (Kd.C_below HGG.out.2.1 HBY.out) HGG.out.1 (Kd.C_below HFF.out.2.1 HBY.out) HFF.out.1 h60G).mono ?_
                rintro e w5 ⟨rfl, hb⟩
                rw [HSB.out.2.1]
                have HBZ := Aside0.mk (below_step HBY.out hb)
                clear HBY hb
                go_wp2_with fail
                refine (same_calls A1 c1 F A1 c1 F _ (Kd.C_below HFF.out.2.1 HBZ.out) HFF.out.1 (Kd.C_below HFF.out.2.1 HBZ.out) HFF.out.1 h60F).mono ?_
                rintro e w6 ⟨rfl, hb⟩
                rw [HSB.out.2.2]
                have HBV := Aside0.mk (below_step HBZ.out hb)
                clear HBZ hb
                go_wp2_with fail
                refine (head_calls _).mono ?_
                rintro e w7 ⟨rfl, hb⟩
                have HBU := Aside0.mk (below_step (Below.trans HB2.out (HBV.out.mono HB2.out.size)) hb)
                clear HBV hb HSB HFF HGG
                go_wp2
                go_ret
                exact ⟨rfl, HBU.out⟩
      · go_wp2_with fail
        refine (head_calls _).mono ?_
        rintro e w3 ⟨rfl, hb⟩
        have HB3 := Aside0.mk (below_step HB2.out hb)
        clear hb
        go_wp2
        go_ret
        exact ⟨rfl, HB3.out⟩
    · go_wp2_with fail
      refine (head_calls _).mono ?_
      rintro e w3 ⟨rfl, hb⟩
      have HB3 := Aside0.mk (below_step HB2.out hb)
      clear hb
      go_wp2
      go_ret
      exact ⟨rfl, HB3.out⟩
end Go.Proofs.Ytddbnncimggogaa.Lv
