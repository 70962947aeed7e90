/- slices.SortStableFunc at livery/api.Seg: the merge of two rows that are neither of one. -/
import Derived.Test.YtddbnncimggogaaLvSmSeg
import Derived.Deep.DeepCutAuto
namespace Go.Proofs.Ytddbnncimggogaa.StSeg
open Go.RowKit Go.Proofs.YtddbnncimggogaaW.PrintWords Go.Proofs.YtddbnncimggogaaW.PrintLast Go.Proofs.YtddbnncimggogaaW.PrintMore Go.Proofs.Ytddbnncimggogaa.Pb Go.Proofs.Ytddbnncimggogaa.Lv Go.Proofs.Ytddbnncimggogaa.SP
set_option maxHeartbeats 4000000 in
set_option maxRecDepth 100000 in
theorem sym_mid (gc : Nat) (fst cb : Array Value) (cf : Seg → Seg → Int) (o : SWO (ltB cf)) (g N c L : Nat) (I : World → Prop) (hS : Side Try.prog g gc fst cb cf I)
    (eg : ∀ args w, (callFunc gc args).run Try.prog w = .ok (.enter gc args) w) (d : Nat)
    (ih : ∀ (a m b : Int) (w : World) (A U V C : List Seg), I w → Row g N (A ++ (U ++ (V ++ C))) w → a = A.length → m = a + U.length → b = m + V.length → 0 < U.length → 0 < V.length → Srt (ltB cf) U → Srt (ltB cf) V → (A ++ (U ++ (V ++ C))).length ≤ 1000000000 → L = (A ++ (U ++ (V ++ C))).length → U.length + V.length ≤ d →
      Calls Try.prog 152 #[.slice (some ⟨g, 0, none⟩) L c, .int .i64 a, .int .i64 m, .int .i64 b, .func (.func gc) fst cb] w (SymPost cf g N I A U V C))
    (a m b mid : Int) (w : World) (A U V C : List Seg) (hI : I w) (hR : Row g N (A ++ (U ++ (V ++ C))) w) (ha : a = A.length) (hm0 : m = a + U.length) (hb : b = m + V.length) (hU1 : 1 < U.length) (hV1 : 1 < V.length) (hU : Srt (ltB cf) U) (hV : Srt (ltB cf) V)
    (hm : (A ++ (U ++ (V ++ C))).length ≤ 1000000000) (hL : L = (A ++ (U ++ (V ++ C))).length) (hd : U.length + V.length ≤ d + 1) (hmid : mid = (a + b) / 2) :
    Calls Try.prog 152 #[.slice (some ⟨g, 0, none⟩) L c, .int .i64 a, .int .i64 m, .int .i64 b, .func (.func gc) fst cb] w (SymPost cf g N I A U V C) := by
  have hu30 := Try.underlying30
  have ha0 : 0 ≤ a := by omega
  have hlen : A.length + (U.length + (V.length + C.length)) = L := by rw [hL]; simp
  rw [← hL] at hm
  have ham : a + 2 ≤ m := by omega
  have hmb : m + 2 ≤ b := by omega
  have hbL : b ≤ L := by omega
  have hbn : b ≤ 1000000000 := by omega
  have hm1 : 0 ≤ m := by omega
  have hb1 : 0 ≤ b := by omega
  obtain ⟨ys, hys⟩ : ∃ ys, ys = A ++ (U ++ (V ++ C)) := ⟨_, rfl⟩
  have hyl : ys.length = L := by rw [hys]; exact hL.symm
  rw [← hys] at hR
  have eu : ∀ t, a ≤ t → t < m → rdE ys t = U.getD (t - a).toNat z30 := fun t h1 h2 => by
    rw [hys, rd_app_mid A U (V ++ C) t (by omega) (by omega)]
    congr 1
    omega
  have ev : ∀ t, m ≤ t → t < b → rdE ys t = V.getD (t - m).toNat z30 := fun t h1 h2 => by
    rw [hys, ← List.append_assoc, rd_app_mid (A ++ U) V C t (by simp; omega) (by simp; omega)]
    congr 1
    simp
    omega
  have mono : ∀ p q, a ≤ p → mid + m - b ≤ p → p ≤ q → q < m → q < mid → (!ltB cf (rdE ys (mid + m - 1 - q)) (rdE ys q)) = true → (!ltB cf (rdE ys (mid + m - 1 - p)) (rdE ys p)) = true := fun p q h0 h1 h2 h3 h3b h4 => by
    by_cases hpq : p = q
    · rw [hpq]; exact h4
    · have h5 := srt_rd hU (p - a).toNat (q - a).toNat (by omega) (by omega)
      have h6 := srt_rd hV (mid + m - 1 - q - m).toNat (mid + m - 1 - p - m).toNat (by omega) (by omega)
      rw [← eu p (by omega) (by omega), ← eu q (by omega) (by omega)] at h5
      rw [← ev (mid + m - 1 - q) (by omega) (by omega), ← ev (mid + m - 1 - p) (by omega) (by omega)] at h6
      have h7 := o.neg _ _ _ (o.neg _ _ _ h6 (by simpa using h4)) h5
      simp [h7]
  have HR := Aside0.mk hR
  have HY := Aside0.mk (And.intro hys (And.intro hyl (And.intro eu (And.intro ev (And.intro mono (And.intro ha (And.intro hm0 (And.intro hb (And.intro hlen (And.intro hU (And.intro hV (And.intro hd hmid))))))))))))
  have HS := Aside0.mk hS
  have HIH := Aside0.mk ih
  have HEG := Aside0.mk eg
  have HDR := Aside0.mk hS.drew
  have hd1 : ((m - a : Int) == 1) = false := by simp; omega
  have hd2 : ((b - m : Int) == 1) = false := by simp; omega
  have hq1 : (a + b) / 2 = mid := hmid.symm
  have hmid0 : 0 ≤ mid := by omega
  have hmidn : mid ≤ 1000000000 := by omega
  have hamid : a < mid := by omega
  have hmidb : mid < b := by omega
  clear hR hys hyl eu ev mono ha hm0 hb hlen hU hV hS hL hU1 hV1 hd ih hmid
  go_enter Try.func152, Try.ntmps152
  go_upto_if 140 with fail
  go_cut [20, 21] from 138 to 146 (fun v20 v21 wx => wx = w ∧ ∃ lo hi : Int, v20 = .int .i64 lo ∧ v21 = .int .i64 hi ∧ a ≤ lo ∧ mid + m - b ≤ lo ∧ hi ≤ m ∧ hi ≤ mid ∧ lo ≤ hi ∧ Aside0 ((lo = a ∨ lo = mid + m - b) ∧ (hi = m ∨ hi = mid)))
  case first =>
    by_cases e : m > mid
    · go_wp2_with fail
      go_meet
      case rel => exact ⟨rfl, mid + m - b, mid, rfl, rfl, by omega, by omega, by omega, by omega, by omega, ⟨Or.inr rfl, Or.inr rfl⟩⟩
    · go_wp2_with fail
      go_meet
      case rel => exact ⟨rfl, a, m, rfl, rfl, by omega, by omega, by omega, by omega, by omega, ⟨Or.inl rfl, Or.inl rfl⟩⟩
  obtain ⟨rfl, lo, hi, rfl, rfl, hlo1, hlo2, hhi1, hhi2, hlh, HDJ⟩ := hcut
  go_wp2
  go_loopw [20, 21] (fun v20 v21 wr => ∃ s r : Int, v20 = .int .i64 s ∧ v21 = .int .i64 r ∧ lo ≤ s ∧ s ≤ r ∧ r ≤ hi ∧ I wr ∧ Row g N ys wr ∧ Aside0 (BX (fun t => !ltB cf (rdE ys (mid + m - 1 - t)) (rdE ys t)) lo hi s r)) (fun v20 v21 _ => (intOf v21 - intOf v20).toNat)
  case atStart => exact ⟨lo, hi, rfl, rfl, by omega, by omega, by omega, hI, HR.out, ⟨BX.start _ (by omega)⟩⟩
  case round =>
    obtain ⟨s, r, rfl, rfl, hls, hsr, hrh, hIw, hRw, HB⟩ := hrel
    have hsn : s ≤ 1000000000 := by omega
    have hrn : r ≤ 1000000000 := by omega
    have hs0 : 0 ≤ s := by omega
    have hr0 : 0 ≤ r := by omega
    by_cases hlt : s < r
    · have inst : Inhabited (InR g I wr) := ⟨⟨wr, hIw, fun _ h => h⟩⟩
      obtain ⟨h, hh⟩ : ∃ h, (s + r) / 2 = h := ⟨_, rfl⟩
      obtain ⟨q, hq⟩ : ∃ q, mid + m - 1 - h = q := ⟨_, rfl⟩
      have hh0 : 0 ≤ h := by omega
      have hh1 : h < L := by omega
      have hhi : s ≤ h := by omega
      have hhj : h < r := by omega
      have hq0 : 0 ≤ q := by omega
      have hqL : q < L := by omega
      have hhw : IntKind.i64.wrap h = h := by rw [IntKind.wrap_i64]; omega
      have hqw : IntKind.i64.wrap q = q := by rw [IntKind.wrap_i64]; omega
      obtain ⟨cs, hb, hsz, hlN, hH⟩ := hRw
      obtain ⟨xp0, xp1, xp2⟩ := holds_int hH h hh0 (by rw [HY.out.2.1]; omega)
      obtain ⟨xq0, xq1, xq2⟩ := holds_int hH q hq0 (by rw [HY.out.2.1]; omega)
      have pc0 := fun p : InR g I wr => InR.cell hb xp0 p
      have pc1 := fun p : InR g I wr => InR.cell hb xp1 p
      have pc2 := fun p : InR g I wr => InR.cell hb xp2 p
      have qc0 := fun p : InR g I wr => InR.cell hb xq0 p
      have qc1 := fun p : InR g I wr => InR.cell hb xq1 p
      have qc2 := fun p : InR g I wr => InR.cell hb xq2 p
      have HRW := Aside0.mk (⟨cs, hb, hsz, hlN, hH⟩ : Row g N ys wr)
      obtain ⟨x, hx⟩ : ∃ x, x = rdE ys h := ⟨_, rfl⟩
      obtain ⟨y, hy⟩ : ∃ y, y = rdE ys q := ⟨_, rfl⟩
      rw [← hx] at pc0 pc1 pc2
      rw [← hy] at qc0 qc1 qc2
      have HXY := Aside0.mk (And.intro hx hy)
      have HH := Aside0.mk (And.intro hh hq)
      have heg := HEG.out
      clear hb hsz hlN hH xp0 xq0 xp1 xq1 xp2 xq2 hx hy
      go_wp2_with fail
      refine wp_region_inR g I hIw HDR.out (by kernel_rfl) (by kernel_rfl) ?_
      repeat (quiet_step ((exact Calls.inR (HS.out.cmp y x _ (InR.side _)))))
      refine wpQuiet_nil ?_
      rintro w3 ⟨⟨_, hI3, hrow⟩, rfl⟩
      try dsimp only
      have HR3 : Row g N ys w3 := row_of HRW.out ⟨w3, hI3, hrow⟩
      have HI3 := Aside0.mk hI3
      have HR3' := Aside0.mk HR3
      clear pc0 qc0 pc1 qc1 pc2 qc2 hrow HR3 hI3 inst hIw
      have epr : (!ltB cf (rdE ys (mid + m - 1 - h)) (rdE ys h)) = !decide (cf y x < 0) := by rw [HH.out.2, ← HXY.out.1, ← HXY.out.2]; rfl
      have EPR := Aside0.mk epr
      clear epr
      by_cases hc : cf y x < 0
      · have hd : decide (cf y x < 0) = true := decide_eq_true hc
        have hd' : (!decide (cf y x < 0)) = false := by rw [hd]; rfl
        have hnew : Aside0 (BX (fun t => !ltB cf (rdE ys (mid + m - 1 - t)) (rdE ys t)) lo hi s h) := ⟨by
          have := HB.out.down (fun p q h1 h2 h3 => HY.out.2.2.2.2.1 p q (by omega) (by omega) h2 (by omega) (by omega)) hlt (by rw [HH.out.1, EPR.out]; exact hd')
          rwa [HH.out.1] at this⟩
        clear hd
        go_wp2
        any_goals (exfalso; rename_i hx; rw [hd'] at hx; cases hx; done)
        go_roundw
        case rel => exact ⟨s, h, rfl, rfl, by omega, by omega, by omega, HI3.out, HR3'.out, hnew⟩
        case measure => simp [intOf]; omega
      · have hd : decide (cf y x < 0) = false := decide_eq_false hc
        have hd' : (!decide (cf y x < 0)) = true := by rw [hd]; rfl
        have hnew : Aside0 (BX (fun t => !ltB cf (rdE ys (mid + m - 1 - t)) (rdE ys t)) lo hi (h + 1) r) := ⟨by
          have := HB.out.up (fun p q h1 h2 h3 => HY.out.2.2.2.2.1 p q (by omega) (by omega) h2 (by omega) (by omega)) hlt (by rw [HH.out.1, EPR.out]; exact hd')
          rwa [HH.out.1] at this⟩
        clear hd
        go_wp2
        any_goals (exfalso; rename_i hx; rw [hd'] at hx; cases hx; done)
        go_roundw
        case rel => exact ⟨h + 1, r, rfl, rfl, by omega, by omega, by omega, HI3.out, HR3'.out, hnew⟩
        case measure => simp [intOf]; omega
    · obtain rfl : s = r := by omega
      obtain ⟨en, hen⟩ : ∃ en, mid + m - s = en := ⟨_, rfl⟩
      have hy := HY.out
      have hB := HB.out
      obtain ⟨l1, hl1⟩ : ∃ l1, l1 = U.take (s - a).toNat := ⟨_, rfl⟩
      obtain ⟨l2, hl2⟩ : ∃ l2, l2 = U.drop (s - a).toNat := ⟨_, rfl⟩
      obtain ⟨r1, hr1⟩ : ∃ r1, r1 = V.take (en - m).toNat := ⟨_, rfl⟩
      obtain ⟨r2, hr2⟩ : ∃ r2, r2 = V.drop (en - m).toNat := ⟨_, rfl⟩
      have hUs : l1 ++ l2 = U := by rw [hl1, hl2, List.take_append_drop]
      have hVs : r1 ++ r2 = V := by rw [hr1, hr2, List.take_append_drop]
      have n1 : (l1.length : Int) = s - a := by rw [hl1]; simp; omega
      have n2 : (l2.length : Int) = m - s := by rw [hl2]; simp; omega
      have n3 : (r1.length : Int) = en - m := by rw [hr1]; simp; omega
      have n4 : (r2.length : Int) = b - en := by rw [hr2]; simp; omega
      have c1 : ∀ x ∈ l1, ∀ y ∈ r2, ltB cf y x = false := fun x hx y hy2 => by
        rw [hl1] at hx; rw [hr2] at hy2
        obtain ⟨p, hp, hpl, rfl⟩ := mem_take_rd hx
        obtain ⟨q, hq, hql, rfl⟩ := mem_drop_rd hy2
        have hdj := HDJ.out.1
        have h1 := hB.yes (s - 1) (by rcases hdj with h | h <;> omega) (by omega)
        have h2 : U.getD p z30 = rdE ys (a + p) := by rw [hy.2.2.1 _ (by omega) (by omega)]; congr 1; omega
        have h3 : V.getD q z30 = rdE ys (m + q) := by rw [hy.2.2.2.1 _ (by omega) (by omega)]; congr 1; omega
        rw [h2, h3]
        have h4 : ltB cf (rdE ys (s - 1)) (rdE ys (a + p)) = false := by
          by_cases e : s - 1 = a + p
          · rw [e]; exact o.irr _
          · rw [hy.2.2.1 _ (by omega) (by omega), hy.2.2.1 (a + p) (by omega) (by omega)]
            exact srt_rd hy.2.2.2.2.2.2.2.2.2.1 _ _ (by omega) (by omega)
        have h5 : ltB cf (rdE ys (m + q)) (rdE ys (mid + m - 1 - (s - 1))) = false := by
          by_cases e : m + q = mid + m - 1 - (s - 1)
          · rw [← e]; exact o.irr _
          · rw [hy.2.2.2.1 (m + q) (by omega) (by omega), hy.2.2.2.1 (mid + m - 1 - (s - 1)) (by omega) (by omega)]
            exact srt_rd hy.2.2.2.2.2.2.2.2.2.2.1 _ _ (by omega) (by omega)
        exact o.neg _ _ _ (o.neg _ _ _ h5 (by simpa using h1)) h4
      have c2 : ∀ x ∈ l2, ∀ y ∈ r1, ltB cf y x = true := fun x hx y hy2 => by
        rw [hl2] at hx; rw [hr1] at hy2
        obtain ⟨p, hp, hpl, rfl⟩ := mem_drop_rd hx
        obtain ⟨q, hq, hql, rfl⟩ := mem_take_rd hy2
        have hdj := HDJ.out.2
        have h1 := hB.no s (by omega) (by rcases hdj with h | h <;> omega)
        have h2 : U.getD p z30 = rdE ys (a + p) := by rw [hy.2.2.1 _ (by omega) (by omega)]; congr 1; omega
        have h3 : V.getD q z30 = rdE ys (m + q) := by rw [hy.2.2.2.1 _ (by omega) (by omega)]; congr 1; omega
        rw [h2, h3]
        have h4 : ltB cf (rdE ys (a + p)) (rdE ys s) = false := by
          by_cases e : s = a + p
          · rw [e]; exact o.irr _
          · rw [hy.2.2.1 (a + p) (by omega) (by omega), hy.2.2.1 s (by omega) (by omega)]
            exact srt_rd hy.2.2.2.2.2.2.2.2.2.1 _ _ (by omega) (by omega)
        have h5 : ltB cf (rdE ys (mid + m - 1 - s)) (rdE ys (m + q)) = false := by
          by_cases e : m + q = mid + m - 1 - s
          · rw [← e]; exact o.irr _
          · rw [hy.2.2.2.1 (m + q) (by omega) (by omega), hy.2.2.2.1 (mid + m - 1 - s) (by omega) (by omega)]
            exact srt_rd hy.2.2.2.2.2.2.2.2.2.2.1 _ _ (by omega) (by omega)
        cases e : ltB cf (rdE ys (m + q)) (rdE ys (a + p))
        · have h6 := o.neg _ _ _ (o.neg _ _ _ h5 e) h4
          simp [h6] at h1
        · rfl
      have sU : Srt (ltB cf) (l1 ++ l2) := by rw [hUs]; exact hy.2.2.2.2.2.2.2.2.2.1
      have sV : Srt (ltB cf) (r1 ++ r2) := by rw [hVs]; exact hy.2.2.2.2.2.2.2.2.2.2.1
      have hfin : ∀ (w' : World) (m1 m2 : List Seg), I w' → Row g N (A ++ (m1 ++ (m2 ++ C))) w' → Srt (ltB cf) m1 → Srt (ltB cf) m2 → Stb (ltB cf) (l1 ++ r1) m1 → Stb (ltB cf) (l2 ++ r2) m2 → SymPost cf g N I A U V C (.returned (.tuple #[])) w' := fun w' m1 m2 h1 h2 h3 h4 h5 h6 => by
        have := merge_cut o sU sV c1 c2 h3 h4 h5 h6
        rw [hUs, hVs] at this
        exact ⟨rfl, h1, m1 ++ m2, by simpa using h2, this.1, this.2⟩
      have hR0 : Row g N (A ++ (l1 ++ (l2 ++ (r1 ++ (r2 ++ C))))) wr := by
        have := hRw; rw [hy.1, ← hUs, ← hVs] at this; simpa using this
      have hAL : (A.length : Int) = a := by have := hy.2.2.2.2.2.1; omega
      have hLL : A.length + (l1.length + (l2.length + (r1.length + (r2.length + C.length)))) = L := by
        have := hy.2.2.2.2.2.2.2.2.1; rw [← hUs, ← hVs] at this; simp at this; omega
      have hdd : l1.length + l2.length + (r1.length + r2.length) ≤ d + 1 := by
        have := hy.2.2.2.2.2.2.2.2.2.2.2.1; rw [← hUs, ← hVs] at this; simp at this; omega
      have HF := Aside0.mk hfin
      have HN := Aside0.mk (And.intro n1 (And.intro n2 (And.intro n3 (And.intro n4 (And.intro hAL (And.intro hLL (And.intro hdd (And.intro sU (And.intro sV hen)))))))))
      have hen0 : 0 ≤ en := by omega
      have henb : en ≤ b := by omega
      have hmen : m ≤ en := by omega
      have hsm : s ≤ m := by omega
      have has : a ≤ s := by omega
      have hsmid : s ≤ mid := by omega
      have hmiden : mid ≤ en := by omega
      have henn : en ≤ 1000000000 := by omega
      have HR0 := Aside0.mk hR0
      clear hy hB hl1 hl2 hr1 hr2 hUs hVs n1 n2 n3 n4 c1 c2 sU sV hfin hRw hR0 hAL hLL hdd
      clear HB HDJ hlt hrn hr0
      go_upto_region 39 with fail
      go_cut [185] from 178 to 185 (fun v wx => wx = wr ∧ ∃ q : Bool, v = .bool q ∧ Aside0 (q = decide (s < m ∧ m < en)))
      case first =>
        by_cases e1 : s < m
        · have t1 : decide (s < m) = true := decide_eq_true e1
          by_cases e2 : m < en
          · have t2 : decide (m < en) = true := decide_eq_true e2
            go_wp2_with fail
            go_meet
            case rel => exact ⟨rfl, _, rfl, ⟨by simp [t1, t2]⟩⟩
          · have t2 : decide (m < en) = false := decide_eq_false e2
            go_wp2_with fail
            go_meet
            case rel => exact ⟨rfl, _, rfl, ⟨by simp [t1, t2]⟩⟩
        · have t1 : decide (s < m) = false := decide_eq_false e1
          go_wp2_with fail
          go_meet
          case rel => exact ⟨rfl, _, rfl, ⟨by simp [t1]⟩⟩
      obtain ⟨rfl, q, rfl, HQ⟩ := hcut
      go_upto_if 185 with fail
      go_cut [] from 185 to 191 (fun wx => I wx ∧ Row g N (A ++ (l1 ++ (r1 ++ (l2 ++ (r2 ++ C))))) wx)
      case first =>
        cases q
        case true =>
          have e : s < m ∧ m < en := of_decide_eq_true (HQ.out).symm
          have e1 := e.1
          have e2 := e.2
          go_wp2_with fail
          refine (rotate_calls g N c L s m en (.func (.func gc) fst cb) I _ wc HS.out.set HS.out.drew hIw HR0.out (A ++ l1) l2 r1 (r2 ++ C) (by simp) (by have := HN.out; simp; omega) (by have := HN.out; simp; omega) (by have := HN.out; simp; omega) (by have := HN.out; omega) (by have := HN.out; omega) (by have := HN.out; simp; omega) (by have := HN.out; simp; omega)).mono ?_
          rintro e w4 ⟨rfl, hI4, hR4'⟩
          have hR4 : Row g N (A ++ (l1 ++ (r1 ++ (l2 ++ (r2 ++ C))))) w4 := by simpa using hR4'
          clear hR4'
          go_wp2_with fail
          go_meet
          case rel => exact ⟨hI4, hR4⟩
        case false =>
          have e : ¬ (s < m ∧ m < en) := of_decide_eq_false (HQ.out).symm
          have hR4 : Row g N (A ++ (l1 ++ (r1 ++ (l2 ++ (r2 ++ C))))) wc := by
            have h0 := HR0.out
            have hn := HN.out
            by_cases e1 : s < m
            · have e0 : r1 = [] := List.eq_nil_of_length_eq_zero (by omega)
              rw [e0] at h0 ⊢
              simpa using h0
            · have e0 : l2 = [] := List.eq_nil_of_length_eq_zero (by omega)
              rw [e0] at h0 ⊢
              simpa using h0
          have HR4 := Aside0.mk hR4
          clear hR4 e
          go_wp2_with fail
          go_meet
          case rel => exact ⟨hIw, HR4.out⟩
      clear HR0 hIw
      obtain ⟨hIw, hR4⟩ := hcut
      have HR4 := Aside0.mk hR4
      clear hR4
      obtain ⟨w4, hw4⟩ : ∃ w4, w4 = wc := ⟨_, rfl⟩
      rw [← hw4] at hIw HR4 ⊢
      clear hw4
      go_upto_region 41 with fail
      go_cut [199] from 192 to 199 (fun v wx => wx = w4 ∧ ∃ q : Bool, v = .bool q ∧ Aside0 (q = decide (a < s ∧ s < mid)))
      case first =>
        by_cases e1 : a < s
        · have t1 : decide (a < s) = true := decide_eq_true e1
          by_cases e2 : s < mid
          · have t2 : decide (s < mid) = true := decide_eq_true e2
            go_wp2_with fail
            go_meet
            case rel => exact ⟨rfl, _, rfl, ⟨by simp [t1, t2]⟩⟩
          · have t2 : decide (s < mid) = false := decide_eq_false e2
            go_wp2_with fail
            go_meet
            case rel => exact ⟨rfl, _, rfl, ⟨by simp [t1, t2]⟩⟩
        · have t1 : decide (a < s) = false := decide_eq_false e1
          go_wp2_with fail
          go_meet
          case rel => exact ⟨rfl, _, rfl, ⟨by simp [t1]⟩⟩
      obtain ⟨rfl, q, rfl, HQ⟩ := hcut
      go_upto_if 199 with fail
      go_cut [] from 199 to 205 (fun wx => I wx ∧ ∃ m1, Row g N (A ++ (m1 ++ (l2 ++ (r2 ++ C)))) wx ∧ Srt (ltB cf) m1 ∧ Stb (ltB cf) (l1 ++ r1) m1 ∧ l1.length + r1.length = m1.length)
      case first =>
        cases q
        case true =>
          have e : a < s ∧ s < mid := of_decide_eq_true (HQ.out).symm
          have e1 := e.1
          have e2 := e.2
          go_wp2_with fail
          refine (HIH.out a s mid _ A l1 r1 (l2 ++ (r2 ++ C)) hIw HR4.out (by have := HN.out; omega) (by have := HN.out; omega) (by have := HN.out; omega) (by have := HN.out; omega) (by have := HN.out; omega) HN.out.2.2.2.2.2.2.2.1.left HN.out.2.2.2.2.2.2.2.2.1.left (by have := HN.out; simp; omega) (by have := HN.out; simp; omega) (by have := HN.out; omega)).mono ?_
          rintro e w5 ⟨rfl, hI5, m1, hR5, hs1, hk1⟩
          have hl5 := hk1.1
          simp only [List.length_append] at hl5
          have HX := Aside0.mk (And.intro hR5 (And.intro hs1 (And.intro hk1 hl5)))
          clear hR5 hs1 hk1 hl5
          go_wp2_with fail
          go_meet
          case rel => exact ⟨hI5, m1, HX.out⟩
        case false =>
          have e : ¬ (a < s ∧ s < mid) := of_decide_eq_false (HQ.out).symm
          have hs1 : Srt (ltB cf) (l1 ++ r1) := by
            have hn := HN.out
            by_cases e1 : a < s
            · have e0 : r1 = [] := List.eq_nil_of_length_eq_zero (by omega)
              rw [e0]; simp; exact hn.2.2.2.2.2.2.2.1.left
            · have e0 : l1 = [] := List.eq_nil_of_length_eq_zero (by omega)
              rw [e0]; simp; exact hn.2.2.2.2.2.2.2.2.1.left
          have HX := Aside0.mk hs1
          clear hs1 e
          go_wp2_with fail
          go_meet
          case rel => exact ⟨hIw, l1 ++ r1, by simpa using HR4.out, HX.out, Stb.refl _, by simp⟩
      clear HR4 hIw
      obtain ⟨hIw, m1, hR5, hs1, hk1, hl5⟩ := hcut
      have HR5 := Aside0.mk hR5
      have HM1 := Aside0.mk (And.intro hs1 (And.intro hk1 hl5))
      clear hR5 hs1 hk1 hl5
      obtain ⟨w5, hw5⟩ : ∃ w5, w5 = wc := ⟨_, rfl⟩
      rw [← hw5] at hIw HR5 ⊢
      clear hw5
      go_upto_region 43 with fail
      go_cut [213] from 206 to 213 (fun v wx => wx = w5 ∧ ∃ q : Bool, v = .bool q ∧ Aside0 (q = decide (mid < en ∧ en < b)))
      case first =>
        by_cases e1 : mid < en
        · have t1 : decide (mid < en) = true := decide_eq_true e1
          by_cases e2 : en < b
          · have t2 : decide (en < b) = true := decide_eq_true e2
            go_wp2_with fail
            go_meet
            case rel => exact ⟨rfl, _, rfl, ⟨by simp [t1, t2]⟩⟩
          · have t2 : decide (en < b) = false := decide_eq_false e2
            go_wp2_with fail
            go_meet
            case rel => exact ⟨rfl, _, rfl, ⟨by simp [t1, t2]⟩⟩
        · have t1 : decide (mid < en) = false := decide_eq_false e1
          go_wp2_with fail
          go_meet
          case rel => exact ⟨rfl, _, rfl, ⟨by simp [t1]⟩⟩
      obtain ⟨rfl, q, rfl, HQ⟩ := hcut
      cases q
      case true =>
        have e : mid < en ∧ en < b := of_decide_eq_true (HQ.out).symm
        have e1 := e.1
        have e2 := e.2
        go_wp2_with fail
        refine (HIH.out mid en b _ (A ++ m1) l2 r2 C hIw (by simpa using HR5.out) (by have := HN.out; have := HM1.out.2.2; simp; omega) (by have := HN.out; omega) (by have := HN.out; omega) (by have := HN.out; omega) (by have := HN.out; omega) HN.out.2.2.2.2.2.2.2.1.right HN.out.2.2.2.2.2.2.2.2.1.right (by have := HN.out; have := HM1.out.2.2; simp; omega) (by have := HN.out; have := HM1.out.2.2; simp; omega) (by have := HN.out; omega)).mono ?_
        rintro e w6 ⟨rfl, hI6, m2, hR6, hs2, hk2⟩
        have HX := Aside0.mk (HF.out w6 m1 m2 hI6 (by simpa using hR6) HM1.out.1 hs2 HM1.out.2.1 hk2)
        clear hR6 hs2 hk2
        go_wp2
        go_end0
        exact HX.out
      case false =>
        have e : ¬ (mid < en ∧ en < b) := of_decide_eq_false (HQ.out).symm
        have hs2 : Srt (ltB cf) (l2 ++ r2) := by
          have hn := HN.out
          by_cases e1 : mid < en
          · have e0 : r2 = [] := List.eq_nil_of_length_eq_zero (by omega)
            rw [e0]; simp; exact hn.2.2.2.2.2.2.2.1.right
          · have e0 : l2 = [] := List.eq_nil_of_length_eq_zero (by omega)
            rw [e0]; simp; exact hn.2.2.2.2.2.2.2.2.1.right
        have HX := Aside0.mk (HF.out _ m1 (l2 ++ r2) hIw (by simpa using HR5.out) HM1.out.1 hs2 HM1.out.2.1 (Stb.refl _))
        clear hs2 e
        go_wp2
        go_end0
        exact HX.out

end Go.Proofs.Ytddbnncimggogaa.StSeg
