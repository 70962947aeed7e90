/- Texts of this claim, joined: CspSeg, CsqSeg, Crle2, Crle3, Ccalc3, Ccalc4, Cref4, Ccalc5, Pcalc, Pcalc2, Pcalc3, Pcalc4, Pslot, Pslot2, Pspan, VFr, VIt, VLp, VXspan, Cspan. -/
import Derived.Test.YtglekfgoadehbaaDoorQFitU3
import Derived.Test.YtglekfgoadehbaaDoorQFitU2
import Derived.Test.YtglekfgoadehbaaDoorProg
section
set_option linter.unusedSimpArgs false
set_option linter.unusedVariables false
/- slices.SortStableFunc at livery/api.Seg: the merge of two rows, the whole. -/
namespace Go.Proofs.YtglekfgoadehbaaDoor.V.SoSeg
open Go Go.Proofs Go.Proofs.YtglekfgoadehbaaDoor.SP
set_option maxRecDepth 100000
variable {α : Type} [Inhabited α] {Z : Im}
set_option maxHeartbeats 8000000 in
theorem sym_mid (f : α → AV) (hok : ∀ x, okEl 3 (f x) = true) (hag : ∀ x, AV.agg (f x).cells = f x) {gf : Nat} {fs cs : List AV} (cf : α → α → Int) (o : SWO (ltB cf)) {Q : St → Prop} (hc : ∀ x y (Y : Im) (s : St), Q s → VCalls Tryd.prog Y gf (fs ++ [f x, f y] ++ cs) s (fun r s' => r = .int .i64 (cf x y) ∧ s' = s))
    (st : St) (bb L c : Nat) (hQst : ∀ (rest : List AV) (xs : List α), Q (ob st bb f rest xs)) (rest : List AV) (d : Nat)
    (ih : ∀ (a m b : Nat) (A U V C : List α), A.length = a → a + U.length = m → m + V.length = b → 0 < U.length → 0 < V.length → Srt (ltB cf) U → Srt (ltB cf) V → (A ++ (U ++ (V ++ C))).length = L → U.length + V.length ≤ d →
      VCalls Tryd.prog Z 100 [.osl bb L c, .int .i64 a, .int .i64 m, .int .i64 b, .clo gf fs cs] (ob st bb f rest (A ++ (U ++ (V ++ C)))) (SymK f cf st bb rest A U V C))
    (A U V C : List α) (a m b : Nat) (ha : A.length = a) (hm0 : a + U.length = m) (hb : m + V.length = b) (hU1 : 1 < U.length) (hV1 : 1 < V.length) (hU : Srt (ltB cf) U) (hV : Srt (ltB cf) V) (hL : (A ++ (U ++ (V ++ C))).length = L) (hm : L ≤ 1000000000) (hd : U.length + V.length ≤ d + 1) :
    VCalls Tryd.prog Z 100 [.osl bb L c, .int .i64 a, .int .i64 m, .int .i64 b, .clo gf fs cs] (ob st bb f rest (A ++ (U ++ (V ++ C)))) (SymK f cf st bb rest A U V C) := by
  have hlen : A.length + (U.length + (V.length + C.length)) = L := by rw [← hL]; simp
  obtain ⟨ys, hys⟩ : ∃ ys, ys = A ++ (U ++ (V ++ C)) := ⟨_, rfl⟩
  have hyl : ys.length = L := by rw [hys]; exact hL
  have eu : ∀ t, a ≤ t → t < m → ys.getD t default = U.getD (t - a) default := fun t h1 h2 => by
    rw [hys, rd_app_mid A U (V ++ C) t (by omega) (by omega)]; congr 1; omega
  have ev : ∀ t, m ≤ t → t < b → ys.getD t default = V.getD (t - m) default := fun t h1 h2 => by
    rw [hys, ← List.append_assoc, rd_app_mid (A ++ U) V C t (by simp; omega) (by simp; omega)]
    congr 1; simp; omega
  obtain ⟨n0, mid, hmid, x1, x2, x3, x4⟩ := halves a b (by omega)
  have mono := mono_mid o hm0 hb hmid eu ev hU hV
  obtain ⟨u, hu⟩ : ∃ u, U.length = u := ⟨_, rfl⟩
  obtain ⟨v, hv⟩ : ∃ v, V.length = v := ⟨_, rfl⟩
  obtain ⟨n, hn⟩ : ∃ n, mid + m = n := ⟨_, rfl⟩
  have y1 : IntKind.i64.wrap ((m : Int) - a) = (u : Int) := by rw [wrap_i64 _ (by omega) (by omega)]; omega
  have y2 : IntKind.i64.wrap ((b : Int) - m) = (v : Int) := by rw [wrap_i64 _ (by omega) (by omega)]; omega
  have y3 : IntKind.i64.wrap ((mid : Int) + m) = (n : Int) := by rw [wrap_i64 _ (by omega) (by omega)]; omega
  have z1 : ((u : Int) == 1) = false := by simp; omega
  have z2 : ((v : Int) == 1) = false := by simp; omega
  obtain ⟨p, hp⟩ : ∃ p, p + 1 = n := ⟨n - 1, by omega⟩
  have y4 : IntKind.i64.wrap ((n : Int) - 1) = (p : Int) := by rw [wrap_i64 _ (by omega) (by omega)]; omega
  have hld := ld f hok hag
  have ham : a + 2 ≤ m := by omega
  have hmb : m + 2 ≤ b := by omega
  have hbL : b ≤ L := by omega
  obtain ⟨lo, hi, h1, h2, h3, h4, h5, h6, h7, hcase⟩ : ∃ lo hi : Nat, a ≤ lo ∧ n ≤ lo + b ∧ hi ≤ m ∧ hi ≤ mid ∧ lo ≤ hi ∧ (lo = a ∨ lo + b = n) ∧ (hi = m ∨ hi = mid) ∧
      ((mid < m ∧ IntKind.i64.wrap ((n : Int) - b) = (lo : Int) ∧ mid = hi) ∨ (¬ mid < m ∧ a = lo ∧ m = hi)) := by
    by_cases e : mid < m
    · exact ⟨n - b, mid, by omega, by omega, by omega, by omega, by omega, by omega, .inr rfl, .inl ⟨e, by rw [wrap_i64 _ (by omega) (by omega)]; omega, rfl⟩⟩
    · exact ⟨a, m, by omega, by omega, by omega, by omega, by omega, .inl rfl, .inl rfl, .inr ⟨e, rfl, rfl⟩⟩
  have HY := Hid.mk (And.intro hys (And.intro hlen (And.intro mono (And.intro eu (And.intro ev (And.intro hu (And.intro hv (And.intro hn (And.intro hp (And.intro hmid (And.intro h6 (And.intro h7 (And.intro hm0 (And.intro hb hd))))))))))))))
  have HIH := Hid.mk ih
  rw [← hys]
  clear hys hlen mono hL eu ev hu hv hn hp hmid h6 h7 hm0 hb ih hd
  refine VCalls.of v_slices_symMergeCmpFunc_api_Seg_ok (Nat.le_of_ble_eq_true rfl) ?_
  simp only [v_slices_symMergeCmpFunc_api_Seg, ↓vD, vU, ↓vMd, vMu, vZ, seval, k_app, k_slc1]
  have hcase' := Hid.mk hcase
  rcases hcase with ⟨e0, w0, hE⟩ | ⟨e0, hE1, hE2⟩
  · have HE := Hid.mk hE
    clear hE
    (repeat' (first | (simp (maxDischargeDepth := 16) only [*, ↓vD, vU, ↓vMd, vMu, vZ, seval, k_app, k_slc1]) | (with_reducible refine gs (fun _ => ?_) (fun _ => ?_)) | (with_reducible refine cs_ (fun _ => ?_) (fun _ => ?_)) | (with_reducible refine appK_a ?_)))
    refine loopm_of (by simp only [asgL, dsts, List.cons_append, List.nil_append, List.append_nil]; rfl) (by simp only [noR, Bool.and_true, Bool.and_false]; rfl) (fun fr s => ∃ s1 r1 : Nat, s = ob st bb f rest ys ∧ fr.t 20 = .int .i64 s1 ∧ fr.t 21 = .int .i64 r1 ∧ BX (fun t => !ltB cf (ys.getD (mid + m - 1 - t) default) (ys.getD t default)) lo hi s1 r1)
      (fun fr _ => (match fr.t 21 with | .int _ n => n.toNat | _ => 0) - (match fr.t 20 with | .int _ n => n.toNat | _ => 0)) ?_ ?_
    · exact ⟨lo, hi, rfl, by simp [↓vD, vU, ↓vMd, vMu, vZ, seval, k_app, k_slc1], (by simp [↓vD, vU, ↓vMd, vMu, vZ, seval, k_app, k_slc1]; rw [HE.out]), BX.start _ h5⟩
    · rintro fr s hf hdd ⟨s1, r1, rfl, h20, h21, hbx⟩
      have b1 := hbx.li
      have b2 := hbx.ij
      have b3 := hbx.jh
      by_cases hlt : s1 < r1
      · obtain ⟨n1, hh, hhh, q1, q2, q3, q4⟩ := halves s1 r1 (by omega)
        have e1 : decide ((s1 : Int) < r1) = true := by simp; omega
        obtain ⟨hys, hlen, mono, eu, ev, hu, hv, hn, hp, hmid, h6, h7, hm0, hb, hd⟩ := HY.out
        obtain ⟨pc, hpc⟩ : ∃ pc, pc + hh = p := ⟨p - hh, by omega⟩
        have q5 : IntKind.i64.wrap ((p : Int) - hh) = (pc : Int) := by rw [wrap_i64 _ (by omega) (by omega)]; omega
        have q6 := wrap_i64 ((hh : Int) + 1) (by omega) (by omega)
        have i1 : hh < ys.length := by omega
        have i2 : hh < L := by omega
        have i3 : pc < ys.length := by omega
        have i4 : pc < L := by omega
        have hidx : mid + m - 1 - hh = pc := by omega
        have hmn : ∀ p q, lo ≤ p → p ≤ q → q < hi → (fun t => !ltB cf (ys.getD (mid + m - 1 - t) default) (ys.getD t default)) q = true → (fun t => !ltB cf (ys.getD (mid + m - 1 - t) default) (ys.getD t default)) p = true := fun p q k1 k2 k3 k4 => mono p q (by omega) (by omega) k2 (by omega) (by omega) k4
        have HU := Hid.mk (And.intro (fun (hp : (!ltB cf (ys.getD pc default) (ys.getD hh default)) = true) => hbx.up hmn hhh hlt (show (!ltB cf (ys.getD (mid + m - 1 - hh) default) (ys.getD hh default)) = true by rw [hidx]; exact hp)) (fun (hp : (!ltB cf (ys.getD pc default) (ys.getD hh default)) = false) => hbx.down hmn hhh hlt (show (!ltB cf (ys.getD (mid + m - 1 - hh) default) (ys.getD hh default)) = false by rw [hidx]; exact hp)))
        have hs1 : s1 ≤ hh := by rw [hhh]; omega
        have hs2 : hh < r1 := by rw [hhh]; omega
        clear hys hlen mono eu ev hu hv hn hp hmid h6 h7 hm0 hb hd hpc hidx hmn hhh
        (repeat' (first | (simp (maxDischargeDepth := 16) only [*, ob_iad, ↓vD, vU, ↓vMd, vMu, vZ, seval, k_app, k_slc1]) | (with_reducible refine gs (fun _ => ?_) (fun _ => ?_)) | (with_reducible refine cs_ (fun _ => ?_) (fun _ => ?_)) | (with_reducible refine appK_a ?_) | (with_reducible refine callH_useC (hc _ _) (hQst _ _) ?_)))
        · rename_i hcmp
          exact ⟨_, St.le.refl _, ⟨hh + 1, r1, rfl, by simp, rfl, HU.out.1 hcmp⟩, by simp only [tn0, tn1]; exact Nat.sub_lt_sub_left hlt (Nat.lt_succ_of_le hs1)⟩
        · rename_i hcmp
          exact ⟨_, St.le.refl _, ⟨s1, hh, rfl, rfl, rfl, HU.out.2 hcmp⟩, by simp only [tn0, tn1]; omega⟩
      · have hr : r1 = s1 := by omega
        rw [hr] at hbx h21
        clear hr b1 b2 b3 hlt
        have b1 := hbx.li
        have b3 := hbx.jh
        obtain ⟨hys, hlen, mono, eu, ev, hu, hv, hn, hp, hmid, h6, h7, hm0, hb, hd⟩ := HY.out
        obtain ⟨en, hen⟩ : ∃ en, en + s1 = n := ⟨n - s1, by omega⟩
        have q1 : IntKind.i64.wrap ((n : Int) - s1) = (en : Int) := by rw [wrap_i64 _ (by omega) (by omega)]; omega
        obtain ⟨c1, c2⟩ := cut_facts o hm0 hb hmid eu ev hU hV (by omega) h7 h1 (by omega) h3 h4 (show en + s1 = mid + m by omega) hbx
        obtain ⟨l1, hl1⟩ : ∃ l1, U.take (s1 - a) = l1 := ⟨_, rfl⟩
        obtain ⟨l2, hl2⟩ : ∃ l2, U.drop (s1 - a) = l2 := ⟨_, rfl⟩
        obtain ⟨w1, hw1⟩ : ∃ w1, V.take (en - m) = w1 := ⟨_, rfl⟩
        obtain ⟨w2, hw2⟩ : ∃ w2, V.drop (en - m) = w2 := ⟨_, rfl⟩
        rw [hl1, hw2] at c1
        rw [hl2, hw1] at c2
        have hUs : l1 ++ l2 = U := by rw [← hl1, ← hl2, List.take_append_drop]
        have hVs : w1 ++ w2 = V := by rw [← hw1, ← hw2, List.take_append_drop]
        have n1 : a + l1.length = s1 := by rw [← hl1, List.length_take]; omega
        have n2 : s1 + l2.length = m := by rw [← hl2, List.length_drop]; omega
        have n3 : m + w1.length = en := by rw [← hw1, List.length_take]; omega
        have n4 : en + w2.length = b := by rw [← hw2, List.length_drop]; omega
        have sU : Srt (ltB cf) (l1 ++ l2) := by rw [hUs]; exact hU
        have sV : Srt (ltB cf) (w1 ++ w2) := by rw [hVs]; exact hV
        have hys' : ys = A ++ (l1 ++ (l2 ++ (w1 ++ (w2 ++ C)))) := by rw [hys, ← hUs, ← hVs]; simp
        have HF : ∀ M1 M2 : List α, Srt (ltB cf) M1 → Srt (ltB cf) M2 → Stb (ltB cf) (l1 ++ w1) M1 → Stb (ltB cf) (l2 ++ w2) M2 → Srt (ltB cf) (M1 ++ M2) ∧ Stb (ltB cf) (U ++ V) (M1 ++ M2) := fun M1 M2 a1 a2 a3 a4 => by
          rw [← hUs, ← hVs]; exact merge_cut o sU sV c1 c2 a1 a2 a3 a4
        have HR : s1 < m → m < en → VCalls Tryd.prog Z 101 [.osl bb L c, .int .i64 s1, .int .i64 m, .int .i64 en, .clo gf fs cs] (ob st bb f rest ys) (fun r s => r = .tup [] ∧ s = ob st bb f rest (A ++ (l1 ++ (w1 ++ (l2 ++ (w2 ++ C)))))) := fun k1 k2 => by
          have := rotate (Z := Z) f hok hag st bb L c rest (.clo gf fs cs) (A ++ l1) l2 w1 (w2 ++ C) s1 m en (by simp; omega) (by simp; omega) (by simp; omega) (by omega) (by omega) (by simp; omega) hm
          rw [hys']; simpa only [List.append_assoc] using this
        have HR0 : ¬ (s1 < m ∧ m < en) → ys = A ++ (l1 ++ (w1 ++ (l2 ++ (w2 ++ C)))) := fun k => by
          rw [hys']
          by_cases e : s1 < m
          · have : w1 = [] := List.eq_nil_of_length_eq_zero (by omega)
            rw [this]; simp
          · have : l2 = [] := List.eq_nil_of_length_eq_zero (by omega)
            rw [this]; simp
        have H1 : a < s1 → s1 < mid → VCalls Tryd.prog Z 100 [.osl bb L c, .int .i64 a, .int .i64 s1, .int .i64 mid, .clo gf fs cs] (ob st bb f rest (A ++ (l1 ++ (w1 ++ (l2 ++ (w2 ++ C)))))) (SymK f cf st bb rest A l1 w1 (l2 ++ (w2 ++ C))) := fun k1 k2 =>
          HIH.out a s1 mid A l1 w1 (l2 ++ (w2 ++ C)) ha n1 (by omega) (by omega) (by omega) sU.left sV.left (by simp; omega) (by omega)
        have H1n : ¬ (a < s1 ∧ s1 < mid) → Srt (ltB cf) (l1 ++ w1) := fun k => by
          by_cases e : a < s1
          · have : w1 = [] := List.eq_nil_of_length_eq_zero (by omega)
            rw [this, List.append_nil]; exact sU.left
          · have : l1 = [] := List.eq_nil_of_length_eq_zero (by omega)
            rw [this, List.nil_append]; exact sV.left
        have H2 : ∀ M1 : List α, l1.length + w1.length = M1.length → mid < en → en < b → VCalls Tryd.prog Z 100 [.osl bb L c, .int .i64 mid, .int .i64 en, .int .i64 b, .clo gf fs cs] (ob st bb f rest (A ++ (M1 ++ (l2 ++ (w2 ++ C))))) (SymK f cf st bb rest (A ++ M1) l2 w2 C) := fun M1 k0 k1 k2 => by
          have := HIH.out mid en b (A ++ M1) l2 w2 C (by simp; omega) (by omega) (by omega) (by omega) (by omega) sU.right sV.right (by simp; omega) (by omega)
          simpa only [List.append_assoc] using this
        have H2n : ¬ (mid < en ∧ en < b) → Srt (ltB cf) (l2 ++ w2) := fun k => by
          by_cases e : mid < en
          · have : w2 = [] := List.eq_nil_of_length_eq_zero (by omega)
            rw [this, List.append_nil]; exact sU.right
          · have : l2 = [] := List.eq_nil_of_length_eq_zero (by omega)
            rw [this, List.nil_append]; exact sV.right
        have kAD : s1 < m ↔ mid < en := by omega
        have kBC : m < en ↔ s1 < mid := by omega
        have HZ := Hid.mk (And.intro HF (And.intro HR (And.intro HR0 (And.intro H1 (And.intro H1n (And.intro H2 (And.intro H2n (And.intro kAD kBC))))))))
        clear hys hlen mono eu ev hu hv hn hp hmid h6 h7 hm0 hb hd hen c1 c2 hl1 hl2 hw1 hw2 hUs hVs n1 n2 n3 n4 sU sV hys' HF HR HR0 H1 H1n H2 H2n kAD kBC hbx
        by_cases kA : s1 < m
        · by_cases kB : m < en
          · by_cases k3 : a < s1
            · by_cases k6 : en < b
              · have kD : mid < en := HZ.out.2.2.2.2.2.2.2.1.1 kA
                have kC : s1 < mid := HZ.out.2.2.2.2.2.2.2.2.1 kB
                (repeat' (first | (simp (maxDischargeDepth := 16) only [*, ↓vD, vU, ↓vMd, vMu, vZ, seval, k_app, k_slc1]) | (with_reducible refine gs (fun _ => ?_) (fun _ => ?_)) | (with_reducible refine cs_ (fun _ => ?_) (fun _ => ?_)) | (with_reducible refine appK_a ?_)))
                refine callH_then (HZ.out.2.1 kA kB) ?_
                rintro _ _ ⟨rfl, rfl⟩
                (repeat' (first | (simp (maxDischargeDepth := 16) only [*, ↓vD, vU, ↓vMd, vMu, vZ, seval, k_app, k_slc1]) | (with_reducible refine gs (fun _ => ?_) (fun _ => ?_)) | (with_reducible refine cs_ (fun _ => ?_) (fun _ => ?_)) | (with_reducible refine appK_a ?_)))
                refine callH_then (HZ.out.2.2.2.1 k3 kC) ?_
                rintro _ _ ⟨rfl, M1, rfl, t1, t2⟩
                have hM1 : l1.length + w1.length = M1.length := by simpa using t2.1
                have T := Hid.mk (And.intro t1 (And.intro t2 hM1))
                clear t1 t2 hM1
                (repeat' (first | (simp (maxDischargeDepth := 16) only [*, ↓vD, vU, ↓vMd, vMu, vZ, seval, k_app, k_slc1]) | (with_reducible refine gs (fun _ => ?_) (fun _ => ?_)) | (with_reducible refine cs_ (fun _ => ?_) (fun _ => ?_)) | (with_reducible refine appK_a ?_)))
                have hH2 := HZ.out.2.2.2.2.2.1 M1 T.out.2.2 kD k6
                refine callH_then hH2 ?_
                rintro _ _ ⟨rfl, M2, rfl, t3, t4⟩
                have T2 := Hid.mk (And.intro t3 t4)
                clear t3 t4 hH2
                (repeat' (first | (simp (maxDischargeDepth := 16) only [*, ↓vD, vU, ↓vMd, vMu, vZ, seval, k_app, k_slc1]) | (with_reducible refine gs (fun _ => ?_) (fun _ => ?_)) | (with_reducible refine cs_ (fun _ => ?_) (fun _ => ?_)) | (with_reducible refine appK_a ?_)))
                exact ⟨_, St.le.refl _, rfl, M1 ++ M2, by simp, HZ.out.1 _ _ T.out.1 T2.out.1 T.out.2.1 T2.out.2⟩
              · have kD : mid < en := HZ.out.2.2.2.2.2.2.2.1.1 kA
                have kC : s1 < mid := HZ.out.2.2.2.2.2.2.2.2.1 kB
                (repeat' (first | (simp (maxDischargeDepth := 16) only [*, ↓vD, vU, ↓vMd, vMu, vZ, seval, k_app, k_slc1]) | (with_reducible refine gs (fun _ => ?_) (fun _ => ?_)) | (with_reducible refine cs_ (fun _ => ?_) (fun _ => ?_)) | (with_reducible refine appK_a ?_)))
                refine callH_then (HZ.out.2.1 kA kB) ?_
                rintro _ _ ⟨rfl, rfl⟩
                (repeat' (first | (simp (maxDischargeDepth := 16) only [*, ↓vD, vU, ↓vMd, vMu, vZ, seval, k_app, k_slc1]) | (with_reducible refine gs (fun _ => ?_) (fun _ => ?_)) | (with_reducible refine cs_ (fun _ => ?_) (fun _ => ?_)) | (with_reducible refine appK_a ?_)))
                refine callH_then (HZ.out.2.2.2.1 k3 kC) ?_
                rintro _ _ ⟨rfl, M1, rfl, t1, t2⟩
                have hM1 : l1.length + w1.length = M1.length := by simpa using t2.1
                have T := Hid.mk (And.intro t1 (And.intro t2 hM1))
                clear t1 t2 hM1
                (repeat' (first | (simp (maxDischargeDepth := 16) only [*, ↓vD, vU, ↓vMd, vMu, vZ, seval, k_app, k_slc1]) | (with_reducible refine gs (fun _ => ?_) (fun _ => ?_)) | (with_reducible refine cs_ (fun _ => ?_) (fun _ => ?_)) | (with_reducible refine appK_a ?_)))
                exact ⟨_, St.le.refl _, rfl, M1 ++ (l2 ++ w2), by simp, HZ.out.1 _ _ T.out.1 (HZ.out.2.2.2.2.2.2.1 (fun h => k6 h.2)) T.out.2.1 (Stb.refl _)⟩
            · by_cases k6 : en < b
              · have kD : mid < en := HZ.out.2.2.2.2.2.2.2.1.1 kA
                have kC : s1 < mid := HZ.out.2.2.2.2.2.2.2.2.1 kB
                (repeat' (first | (simp (maxDischargeDepth := 16) only [*, ↓vD, vU, ↓vMd, vMu, vZ, seval, k_app, k_slc1]) | (with_reducible refine gs (fun _ => ?_) (fun _ => ?_)) | (with_reducible refine cs_ (fun _ => ?_) (fun _ => ?_)) | (with_reducible refine appK_a ?_)))
                refine callH_then (HZ.out.2.1 kA kB) ?_
                rintro _ _ ⟨rfl, rfl⟩
                (repeat' (first | (simp (maxDischargeDepth := 16) only [*, ↓vD, vU, ↓vMd, vMu, vZ, seval, k_app, k_slc1]) | (with_reducible refine gs (fun _ => ?_) (fun _ => ?_)) | (with_reducible refine cs_ (fun _ => ?_) (fun _ => ?_)) | (with_reducible refine appK_a ?_)))
                have hH2 := HZ.out.2.2.2.2.2.1 (l1 ++ w1) (by simp) kD k6
                rw [List.append_assoc] at hH2
                refine callH_then hH2 ?_
                rintro _ _ ⟨rfl, M2, rfl, t3, t4⟩
                have T2 := Hid.mk (And.intro t3 t4)
                clear t3 t4 hH2
                (repeat' (first | (simp (maxDischargeDepth := 16) only [*, ↓vD, vU, ↓vMd, vMu, vZ, seval, k_app, k_slc1]) | (with_reducible refine gs (fun _ => ?_) (fun _ => ?_)) | (with_reducible refine cs_ (fun _ => ?_) (fun _ => ?_)) | (with_reducible refine appK_a ?_)))
                exact ⟨_, St.le.refl _, rfl, (l1 ++ w1) ++ M2, by simp, HZ.out.1 _ _ (HZ.out.2.2.2.2.1 (fun h => k3 h.1)) T2.out.1 (Stb.refl _) T2.out.2⟩
              · have kD : mid < en := HZ.out.2.2.2.2.2.2.2.1.1 kA
                have kC : s1 < mid := HZ.out.2.2.2.2.2.2.2.2.1 kB
                (repeat' (first | (simp (maxDischargeDepth := 16) only [*, ↓vD, vU, ↓vMd, vMu, vZ, seval, k_app, k_slc1]) | (with_reducible refine gs (fun _ => ?_) (fun _ => ?_)) | (with_reducible refine cs_ (fun _ => ?_) (fun _ => ?_)) | (with_reducible refine appK_a ?_)))
                refine callH_then (HZ.out.2.1 kA kB) ?_
                rintro _ _ ⟨rfl, rfl⟩
                (repeat' (first | (simp (maxDischargeDepth := 16) only [*, ↓vD, vU, ↓vMd, vMu, vZ, seval, k_app, k_slc1]) | (with_reducible refine gs (fun _ => ?_) (fun _ => ?_)) | (with_reducible refine cs_ (fun _ => ?_) (fun _ => ?_)) | (with_reducible refine appK_a ?_)))
                exact ⟨_, St.le.refl _, rfl, (l1 ++ w1) ++ (l2 ++ w2), by simp, HZ.out.1 _ _ (HZ.out.2.2.2.2.1 (fun h => k3 h.1)) (HZ.out.2.2.2.2.2.2.1 (fun h => k6 h.2)) (Stb.refl _) (Stb.refl _)⟩
          · by_cases k3 : a < s1
            · by_cases k6 : en < b
              · have kD : mid < en := HZ.out.2.2.2.2.2.2.2.1.1 kA
                have kC : ¬ s1 < mid := fun h => kB (HZ.out.2.2.2.2.2.2.2.2.2 h)
                rw [HZ.out.2.2.1 (fun h => kB h.2)]
                (repeat' (first | (simp (maxDischargeDepth := 16) only [*, ↓vD, vU, ↓vMd, vMu, vZ, seval, k_app, k_slc1]) | (with_reducible refine gs (fun _ => ?_) (fun _ => ?_)) | (with_reducible refine cs_ (fun _ => ?_) (fun _ => ?_)) | (with_reducible refine appK_a ?_)))
                have hH2 := HZ.out.2.2.2.2.2.1 (l1 ++ w1) (by simp) kD k6
                rw [List.append_assoc] at hH2
                refine callH_then hH2 ?_
                rintro _ _ ⟨rfl, M2, rfl, t3, t4⟩
                have T2 := Hid.mk (And.intro t3 t4)
                clear t3 t4 hH2
                (repeat' (first | (simp (maxDischargeDepth := 16) only [*, ↓vD, vU, ↓vMd, vMu, vZ, seval, k_app, k_slc1]) | (with_reducible refine gs (fun _ => ?_) (fun _ => ?_)) | (with_reducible refine cs_ (fun _ => ?_) (fun _ => ?_)) | (with_reducible refine appK_a ?_)))
                exact ⟨_, St.le.refl _, rfl, (l1 ++ w1) ++ M2, by simp, HZ.out.1 _ _ (HZ.out.2.2.2.2.1 (fun h => kC h.2)) T2.out.1 (Stb.refl _) T2.out.2⟩
              · have kD : mid < en := HZ.out.2.2.2.2.2.2.2.1.1 kA
                have kC : ¬ s1 < mid := fun h => kB (HZ.out.2.2.2.2.2.2.2.2.2 h)
                rw [HZ.out.2.2.1 (fun h => kB h.2)]
                (repeat' (first | (simp (maxDischargeDepth := 16) only [*, ↓vD, vU, ↓vMd, vMu, vZ, seval, k_app, k_slc1]) | (with_reducible refine gs (fun _ => ?_) (fun _ => ?_)) | (with_reducible refine cs_ (fun _ => ?_) (fun _ => ?_)) | (with_reducible refine appK_a ?_)))
                exact ⟨_, St.le.refl _, rfl, (l1 ++ w1) ++ (l2 ++ w2), by simp, HZ.out.1 _ _ (HZ.out.2.2.2.2.1 (fun h => kC h.2)) (HZ.out.2.2.2.2.2.2.1 (fun h => k6 h.2)) (Stb.refl _) (Stb.refl _)⟩
            · by_cases k6 : en < b
              · have kD : mid < en := HZ.out.2.2.2.2.2.2.2.1.1 kA
                have kC : ¬ s1 < mid := fun h => kB (HZ.out.2.2.2.2.2.2.2.2.2 h)
                rw [HZ.out.2.2.1 (fun h => kB h.2)]
                (repeat' (first | (simp (maxDischargeDepth := 16) only [*, ↓vD, vU, ↓vMd, vMu, vZ, seval, k_app, k_slc1]) | (with_reducible refine gs (fun _ => ?_) (fun _ => ?_)) | (with_reducible refine cs_ (fun _ => ?_) (fun _ => ?_)) | (with_reducible refine appK_a ?_)))
                have hH2 := HZ.out.2.2.2.2.2.1 (l1 ++ w1) (by simp) kD k6
                rw [List.append_assoc] at hH2
                refine callH_then hH2 ?_
                rintro _ _ ⟨rfl, M2, rfl, t3, t4⟩
                have T2 := Hid.mk (And.intro t3 t4)
                clear t3 t4 hH2
                (repeat' (first | (simp (maxDischargeDepth := 16) only [*, ↓vD, vU, ↓vMd, vMu, vZ, seval, k_app, k_slc1]) | (with_reducible refine gs (fun _ => ?_) (fun _ => ?_)) | (with_reducible refine cs_ (fun _ => ?_) (fun _ => ?_)) | (with_reducible refine appK_a ?_)))
                exact ⟨_, St.le.refl _, rfl, (l1 ++ w1) ++ M2, by simp, HZ.out.1 _ _ (HZ.out.2.2.2.2.1 (fun h => kC h.2)) T2.out.1 (Stb.refl _) T2.out.2⟩
              · have kD : mid < en := HZ.out.2.2.2.2.2.2.2.1.1 kA
                have kC : ¬ s1 < mid := fun h => kB (HZ.out.2.2.2.2.2.2.2.2.2 h)
                rw [HZ.out.2.2.1 (fun h => kB h.2)]
                (repeat' (first | (simp (maxDischargeDepth := 16) only [*, ↓vD, vU, ↓vMd, vMu, vZ, seval, k_app, k_slc1]) | (with_reducible refine gs (fun _ => ?_) (fun _ => ?_)) | (with_reducible refine cs_ (fun _ => ?_) (fun _ => ?_)) | (with_reducible refine appK_a ?_)))
                exact ⟨_, St.le.refl _, rfl, (l1 ++ w1) ++ (l2 ++ w2), by simp, HZ.out.1 _ _ (HZ.out.2.2.2.2.1 (fun h => kC h.2)) (HZ.out.2.2.2.2.2.2.1 (fun h => k6 h.2)) (Stb.refl _) (Stb.refl _)⟩
        · by_cases kB : m < en
          · by_cases k3 : a < s1
            · by_cases k6 : en < b
              · have kD : ¬ mid < en := fun h => kA (HZ.out.2.2.2.2.2.2.2.1.2 h)
                have kC : s1 < mid := HZ.out.2.2.2.2.2.2.2.2.1 kB
                rw [HZ.out.2.2.1 (fun h => kA h.1)]
                (repeat' (first | (simp (maxDischargeDepth := 16) only [*, ↓vD, vU, ↓vMd, vMu, vZ, seval, k_app, k_slc1]) | (with_reducible refine gs (fun _ => ?_) (fun _ => ?_)) | (with_reducible refine cs_ (fun _ => ?_) (fun _ => ?_)) | (with_reducible refine appK_a ?_)))
                refine callH_then (HZ.out.2.2.2.1 k3 kC) ?_
                rintro _ _ ⟨rfl, M1, rfl, t1, t2⟩
                have hM1 : l1.length + w1.length = M1.length := by simpa using t2.1
                have T := Hid.mk (And.intro t1 (And.intro t2 hM1))
                clear t1 t2 hM1
                (repeat' (first | (simp (maxDischargeDepth := 16) only [*, ↓vD, vU, ↓vMd, vMu, vZ, seval, k_app, k_slc1]) | (with_reducible refine gs (fun _ => ?_) (fun _ => ?_)) | (with_reducible refine cs_ (fun _ => ?_) (fun _ => ?_)) | (with_reducible refine appK_a ?_)))
                exact ⟨_, St.le.refl _, rfl, M1 ++ (l2 ++ w2), by simp, HZ.out.1 _ _ T.out.1 (HZ.out.2.2.2.2.2.2.1 (fun h => kD h.1)) T.out.2.1 (Stb.refl _)⟩
              · have kD : ¬ mid < en := fun h => kA (HZ.out.2.2.2.2.2.2.2.1.2 h)
                have kC : s1 < mid := HZ.out.2.2.2.2.2.2.2.2.1 kB
                rw [HZ.out.2.2.1 (fun h => kA h.1)]
                (repeat' (first | (simp (maxDischargeDepth := 16) only [*, ↓vD, vU, ↓vMd, vMu, vZ, seval, k_app, k_slc1]) | (with_reducible refine gs (fun _ => ?_) (fun _ => ?_)) | (with_reducible refine cs_ (fun _ => ?_) (fun _ => ?_)) | (with_reducible refine appK_a ?_)))
                refine callH_then (HZ.out.2.2.2.1 k3 kC) ?_
                rintro _ _ ⟨rfl, M1, rfl, t1, t2⟩
                have hM1 : l1.length + w1.length = M1.length := by simpa using t2.1
                have T := Hid.mk (And.intro t1 (And.intro t2 hM1))
                clear t1 t2 hM1
                (repeat' (first | (simp (maxDischargeDepth := 16) only [*, ↓vD, vU, ↓vMd, vMu, vZ, seval, k_app, k_slc1]) | (with_reducible refine gs (fun _ => ?_) (fun _ => ?_)) | (with_reducible refine cs_ (fun _ => ?_) (fun _ => ?_)) | (with_reducible refine appK_a ?_)))
                exact ⟨_, St.le.refl _, rfl, M1 ++ (l2 ++ w2), by simp, HZ.out.1 _ _ T.out.1 (HZ.out.2.2.2.2.2.2.1 (fun h => kD h.1)) T.out.2.1 (Stb.refl _)⟩
            · by_cases k6 : en < b
              · have kD : ¬ mid < en := fun h => kA (HZ.out.2.2.2.2.2.2.2.1.2 h)
                have kC : s1 < mid := HZ.out.2.2.2.2.2.2.2.2.1 kB
                rw [HZ.out.2.2.1 (fun h => kA h.1)]
                (repeat' (first | (simp (maxDischargeDepth := 16) only [*, ↓vD, vU, ↓vMd, vMu, vZ, seval, k_app, k_slc1]) | (with_reducible refine gs (fun _ => ?_) (fun _ => ?_)) | (with_reducible refine cs_ (fun _ => ?_) (fun _ => ?_)) | (with_reducible refine appK_a ?_)))
                exact ⟨_, St.le.refl _, rfl, (l1 ++ w1) ++ (l2 ++ w2), by simp, HZ.out.1 _ _ (HZ.out.2.2.2.2.1 (fun h => k3 h.1)) (HZ.out.2.2.2.2.2.2.1 (fun h => kD h.1)) (Stb.refl _) (Stb.refl _)⟩
              · have kD : ¬ mid < en := fun h => kA (HZ.out.2.2.2.2.2.2.2.1.2 h)
                have kC : s1 < mid := HZ.out.2.2.2.2.2.2.2.2.1 kB
                rw [HZ.out.2.2.1 (fun h => kA h.1)]
                (repeat' (first | (simp (maxDischargeDepth := 16) only [*, ↓vD, vU, ↓vMd, vMu, vZ, seval, k_app, k_slc1]) | (with_reducible refine gs (fun _ => ?_) (fun _ => ?_)) | (with_reducible refine cs_ (fun _ => ?_) (fun _ => ?_)) | (with_reducible refine appK_a ?_)))
                exact ⟨_, St.le.refl _, rfl, (l1 ++ w1) ++ (l2 ++ w2), by simp, HZ.out.1 _ _ (HZ.out.2.2.2.2.1 (fun h => k3 h.1)) (HZ.out.2.2.2.2.2.2.1 (fun h => kD h.1)) (Stb.refl _) (Stb.refl _)⟩
          · by_cases k3 : a < s1
            · by_cases k6 : en < b
              · have kD : ¬ mid < en := fun h => kA (HZ.out.2.2.2.2.2.2.2.1.2 h)
                have kC : ¬ s1 < mid := fun h => kB (HZ.out.2.2.2.2.2.2.2.2.2 h)
                rw [HZ.out.2.2.1 (fun h => kA h.1)]
                (repeat' (first | (simp (maxDischargeDepth := 16) only [*, ↓vD, vU, ↓vMd, vMu, vZ, seval, k_app, k_slc1]) | (with_reducible refine gs (fun _ => ?_) (fun _ => ?_)) | (with_reducible refine cs_ (fun _ => ?_) (fun _ => ?_)) | (with_reducible refine appK_a ?_)))
                exact ⟨_, St.le.refl _, rfl, (l1 ++ w1) ++ (l2 ++ w2), by simp, HZ.out.1 _ _ (HZ.out.2.2.2.2.1 (fun h => kC h.2)) (HZ.out.2.2.2.2.2.2.1 (fun h => kD h.1)) (Stb.refl _) (Stb.refl _)⟩
              · have kD : ¬ mid < en := fun h => kA (HZ.out.2.2.2.2.2.2.2.1.2 h)
                have kC : ¬ s1 < mid := fun h => kB (HZ.out.2.2.2.2.2.2.2.2.2 h)
                rw [HZ.out.2.2.1 (fun h => kA h.1)]
                (repeat' (first | (simp (maxDischargeDepth := 16) only [*, ↓vD, vU, ↓vMd, vMu, vZ, seval, k_app, k_slc1]) | (with_reducible refine gs (fun _ => ?_) (fun _ => ?_)) | (with_reducible refine cs_ (fun _ => ?_) (fun _ => ?_)) | (with_reducible refine appK_a ?_)))
                exact ⟨_, St.le.refl _, rfl, (l1 ++ w1) ++ (l2 ++ w2), by simp, HZ.out.1 _ _ (HZ.out.2.2.2.2.1 (fun h => kC h.2)) (HZ.out.2.2.2.2.2.2.1 (fun h => kD h.1)) (Stb.refl _) (Stb.refl _)⟩
            · by_cases k6 : en < b
              · have kD : ¬ mid < en := fun h => kA (HZ.out.2.2.2.2.2.2.2.1.2 h)
                have kC : ¬ s1 < mid := fun h => kB (HZ.out.2.2.2.2.2.2.2.2.2 h)
                rw [HZ.out.2.2.1 (fun h => kA h.1)]
                (repeat' (first | (simp (maxDischargeDepth := 16) only [*, ↓vD, vU, ↓vMd, vMu, vZ, seval, k_app, k_slc1]) | (with_reducible refine gs (fun _ => ?_) (fun _ => ?_)) | (with_reducible refine cs_ (fun _ => ?_) (fun _ => ?_)) | (with_reducible refine appK_a ?_)))
                exact ⟨_, St.le.refl _, rfl, (l1 ++ w1) ++ (l2 ++ w2), by simp, HZ.out.1 _ _ (HZ.out.2.2.2.2.1 (fun h => kC h.2)) (HZ.out.2.2.2.2.2.2.1 (fun h => kD h.1)) (Stb.refl _) (Stb.refl _)⟩
              · have kD : ¬ mid < en := fun h => kA (HZ.out.2.2.2.2.2.2.2.1.2 h)
                have kC : ¬ s1 < mid := fun h => kB (HZ.out.2.2.2.2.2.2.2.2.2 h)
                rw [HZ.out.2.2.1 (fun h => kA h.1)]
                (repeat' (first | (simp (maxDischargeDepth := 16) only [*, ↓vD, vU, ↓vMd, vMu, vZ, seval, k_app, k_slc1]) | (with_reducible refine gs (fun _ => ?_) (fun _ => ?_)) | (with_reducible refine cs_ (fun _ => ?_) (fun _ => ?_)) | (with_reducible refine appK_a ?_)))
                exact ⟨_, St.le.refl _, rfl, (l1 ++ w1) ++ (l2 ++ w2), by simp, HZ.out.1 _ _ (HZ.out.2.2.2.2.1 (fun h => kC h.2)) (HZ.out.2.2.2.2.2.2.1 (fun h => kD h.1)) (Stb.refl _) (Stb.refl _)⟩
  · have HE := Hid.mk (And.intro hE1 hE2)
    clear hE1 hE2
    (repeat' (first | (simp (maxDischargeDepth := 16) only [*, ↓vD, vU, ↓vMd, vMu, vZ, seval, k_app, k_slc1]) | (with_reducible refine gs (fun _ => ?_) (fun _ => ?_)) | (with_reducible refine cs_ (fun _ => ?_) (fun _ => ?_)) | (with_reducible refine appK_a ?_)))
    refine loopm_of (by simp only [asgL, dsts, List.cons_append, List.nil_append, List.append_nil]; rfl) (by simp only [noR, Bool.and_true, Bool.and_false]; rfl) (fun fr s => ∃ s1 r1 : Nat, s = ob st bb f rest ys ∧ fr.t 20 = .int .i64 s1 ∧ fr.t 21 = .int .i64 r1 ∧ BX (fun t => !ltB cf (ys.getD (mid + m - 1 - t) default) (ys.getD t default)) lo hi s1 r1)
      (fun fr _ => (match fr.t 21 with | .int _ n => n.toNat | _ => 0) - (match fr.t 20 with | .int _ n => n.toNat | _ => 0)) ?_ ?_
    · exact ⟨lo, hi, rfl, (by simp [↓vD, vU, ↓vMd, vMu, vZ, seval, k_app, k_slc1]; rw [HE.out.1]), (by simp [↓vD, vU, ↓vMd, vMu, vZ, seval, k_app, k_slc1]; rw [HE.out.2]), BX.start _ h5⟩
    · rintro fr s hf hdd ⟨s1, r1, rfl, h20, h21, hbx⟩
      have b1 := hbx.li
      have b2 := hbx.ij
      have b3 := hbx.jh
      by_cases hlt : s1 < r1
      · obtain ⟨n1, hh, hhh, q1, q2, q3, q4⟩ := halves s1 r1 (by omega)
        have e1 : decide ((s1 : Int) < r1) = true := by simp; omega
        obtain ⟨hys, hlen, mono, eu, ev, hu, hv, hn, hp, hmid, h6, h7, hm0, hb, hd⟩ := HY.out
        obtain ⟨pc, hpc⟩ : ∃ pc, pc + hh = p := ⟨p - hh, by omega⟩
        have q5 : IntKind.i64.wrap ((p : Int) - hh) = (pc : Int) := by rw [wrap_i64 _ (by omega) (by omega)]; omega
        have q6 := wrap_i64 ((hh : Int) + 1) (by omega) (by omega)
        have i1 : hh < ys.length := by omega
        have i2 : hh < L := by omega
        have i3 : pc < ys.length := by omega
        have i4 : pc < L := by omega
        have hidx : mid + m - 1 - hh = pc := by omega
        have hmn : ∀ p q, lo ≤ p → p ≤ q → q < hi → (fun t => !ltB cf (ys.getD (mid + m - 1 - t) default) (ys.getD t default)) q = true → (fun t => !ltB cf (ys.getD (mid + m - 1 - t) default) (ys.getD t default)) p = true := fun p q k1 k2 k3 k4 => mono p q (by omega) (by omega) k2 (by omega) (by omega) k4
        have HU := Hid.mk (And.intro (fun (hp : (!ltB cf (ys.getD pc default) (ys.getD hh default)) = true) => hbx.up hmn hhh hlt (show (!ltB cf (ys.getD (mid + m - 1 - hh) default) (ys.getD hh default)) = true by rw [hidx]; exact hp)) (fun (hp : (!ltB cf (ys.getD pc default) (ys.getD hh default)) = false) => hbx.down hmn hhh hlt (show (!ltB cf (ys.getD (mid + m - 1 - hh) default) (ys.getD hh default)) = false by rw [hidx]; exact hp)))
        have hs1 : s1 ≤ hh := by rw [hhh]; omega
        have hs2 : hh < r1 := by rw [hhh]; omega
        clear hys hlen mono eu ev hu hv hn hp hmid h6 h7 hm0 hb hd hpc hidx hmn hhh
        (repeat' (first | (simp (maxDischargeDepth := 16) only [*, ob_iad, ↓vD, vU, ↓vMd, vMu, vZ, seval, k_app, k_slc1]) | (with_reducible refine gs (fun _ => ?_) (fun _ => ?_)) | (with_reducible refine cs_ (fun _ => ?_) (fun _ => ?_)) | (with_reducible refine appK_a ?_) | (with_reducible refine callH_useC (hc _ _) (hQst _ _) ?_)))
        · rename_i hcmp
          exact ⟨_, St.le.refl _, ⟨hh + 1, r1, rfl, by simp, rfl, HU.out.1 hcmp⟩, by simp only [tn0, tn1]; exact Nat.sub_lt_sub_left hlt (Nat.lt_succ_of_le hs1)⟩
        · rename_i hcmp
          exact ⟨_, St.le.refl _, ⟨s1, hh, rfl, rfl, rfl, HU.out.2 hcmp⟩, by simp only [tn0, tn1]; omega⟩
      · have hr : r1 = s1 := by omega
        rw [hr] at hbx h21
        clear hr b1 b2 b3 hlt
        have b1 := hbx.li
        have b3 := hbx.jh
        obtain ⟨hys, hlen, mono, eu, ev, hu, hv, hn, hp, hmid, h6, h7, hm0, hb, hd⟩ := HY.out
        obtain ⟨en, hen⟩ : ∃ en, en + s1 = n := ⟨n - s1, by omega⟩
        have q1 : IntKind.i64.wrap ((n : Int) - s1) = (en : Int) := by rw [wrap_i64 _ (by omega) (by omega)]; omega
        obtain ⟨c1, c2⟩ := cut_facts o hm0 hb hmid eu ev hU hV (by omega) h7 h1 (by omega) h3 h4 (show en + s1 = mid + m by omega) hbx
        obtain ⟨l1, hl1⟩ : ∃ l1, U.take (s1 - a) = l1 := ⟨_, rfl⟩
        obtain ⟨l2, hl2⟩ : ∃ l2, U.drop (s1 - a) = l2 := ⟨_, rfl⟩
        obtain ⟨w1, hw1⟩ : ∃ w1, V.take (en - m) = w1 := ⟨_, rfl⟩
        obtain ⟨w2, hw2⟩ : ∃ w2, V.drop (en - m) = w2 := ⟨_, rfl⟩
        rw [hl1, hw2] at c1
        rw [hl2, hw1] at c2
        have hUs : l1 ++ l2 = U := by rw [← hl1, ← hl2, List.take_append_drop]
        have hVs : w1 ++ w2 = V := by rw [← hw1, ← hw2, List.take_append_drop]
        have n1 : a + l1.length = s1 := by rw [← hl1, List.length_take]; omega
        have n2 : s1 + l2.length = m := by rw [← hl2, List.length_drop]; omega
        have n3 : m + w1.length = en := by rw [← hw1, List.length_take]; omega
        have n4 : en + w2.length = b := by rw [← hw2, List.length_drop]; omega
        have sU : Srt (ltB cf) (l1 ++ l2) := by rw [hUs]; exact hU
        have sV : Srt (ltB cf) (w1 ++ w2) := by rw [hVs]; exact hV
        have hys' : ys = A ++ (l1 ++ (l2 ++ (w1 ++ (w2 ++ C)))) := by rw [hys, ← hUs, ← hVs]; simp
        have HF : ∀ M1 M2 : List α, Srt (ltB cf) M1 → Srt (ltB cf) M2 → Stb (ltB cf) (l1 ++ w1) M1 → Stb (ltB cf) (l2 ++ w2) M2 → Srt (ltB cf) (M1 ++ M2) ∧ Stb (ltB cf) (U ++ V) (M1 ++ M2) := fun M1 M2 a1 a2 a3 a4 => by
          rw [← hUs, ← hVs]; exact merge_cut o sU sV c1 c2 a1 a2 a3 a4
        have HR : s1 < m → m < en → VCalls Tryd.prog Z 101 [.osl bb L c, .int .i64 s1, .int .i64 m, .int .i64 en, .clo gf fs cs] (ob st bb f rest ys) (fun r s => r = .tup [] ∧ s = ob st bb f rest (A ++ (l1 ++ (w1 ++ (l2 ++ (w2 ++ C)))))) := fun k1 k2 => by
          have := rotate (Z := Z) f hok hag st bb L c rest (.clo gf fs cs) (A ++ l1) l2 w1 (w2 ++ C) s1 m en (by simp; omega) (by simp; omega) (by simp; omega) (by omega) (by omega) (by simp; omega) hm
          rw [hys']; simpa only [List.append_assoc] using this
        have HR0 : ¬ (s1 < m ∧ m < en) → ys = A ++ (l1 ++ (w1 ++ (l2 ++ (w2 ++ C)))) := fun k => by
          rw [hys']
          by_cases e : s1 < m
          · have : w1 = [] := List.eq_nil_of_length_eq_zero (by omega)
            rw [this]; simp
          · have : l2 = [] := List.eq_nil_of_length_eq_zero (by omega)
            rw [this]; simp
        have H1 : a < s1 → s1 < mid → VCalls Tryd.prog Z 100 [.osl bb L c, .int .i64 a, .int .i64 s1, .int .i64 mid, .clo gf fs cs] (ob st bb f rest (A ++ (l1 ++ (w1 ++ (l2 ++ (w2 ++ C)))))) (SymK f cf st bb rest A l1 w1 (l2 ++ (w2 ++ C))) := fun k1 k2 =>
          HIH.out a s1 mid A l1 w1 (l2 ++ (w2 ++ C)) ha n1 (by omega) (by omega) (by omega) sU.left sV.left (by simp; omega) (by omega)
        have H1n : ¬ (a < s1 ∧ s1 < mid) → Srt (ltB cf) (l1 ++ w1) := fun k => by
          by_cases e : a < s1
          · have : w1 = [] := List.eq_nil_of_length_eq_zero (by omega)
            rw [this, List.append_nil]; exact sU.left
          · have : l1 = [] := List.eq_nil_of_length_eq_zero (by omega)
            rw [this, List.nil_append]; exact sV.left
        have H2 : ∀ M1 : List α, l1.length + w1.length = M1.length → mid < en → en < b → VCalls Tryd.prog Z 100 [.osl bb L c, .int .i64 mid, .int .i64 en, .int .i64 b, .clo gf fs cs] (ob st bb f rest (A ++ (M1 ++ (l2 ++ (w2 ++ C))))) (SymK f cf st bb rest (A ++ M1) l2 w2 C) := fun M1 k0 k1 k2 => by
          have := HIH.out mid en b (A ++ M1) l2 w2 C (by simp; omega) (by omega) (by omega) (by omega) (by omega) sU.right sV.right (by simp; omega) (by omega)
          simpa only [List.append_assoc] using this
        have H2n : ¬ (mid < en ∧ en < b) → Srt (ltB cf) (l2 ++ w2) := fun k => by
          by_cases e : mid < en
          · have : w2 = [] := List.eq_nil_of_length_eq_zero (by omega)
            rw [this, List.append_nil]; exact sU.right
          · have : l2 = [] := List.eq_nil_of_length_eq_zero (by omega)
            rw [this, List.nil_append]; exact sV.right
        have kAD : s1 < m ↔ mid < en := by omega
        have kBC : m < en ↔ s1 < mid := by omega
        have HZ := Hid.mk (And.intro HF (And.intro HR (And.intro HR0 (And.intro H1 (And.intro H1n (And.intro H2 (And.intro H2n (And.intro kAD kBC))))))))
        clear hys hlen mono eu ev hu hv hn hp hmid h6 h7 hm0 hb hd hen c1 c2 hl1 hl2 hw1 hw2 hUs hVs n1 n2 n3 n4 sU sV hys' HF HR HR0 H1 H1n H2 H2n kAD kBC hbx
        by_cases kA : s1 < m
        · by_cases kB : m < en
          · by_cases k3 : a < s1
            · by_cases k6 : en < b
              · have kD : mid < en := HZ.out.2.2.2.2.2.2.2.1.1 kA
                have kC : s1 < mid := HZ.out.2.2.2.2.2.2.2.2.1 kB
                (repeat' (first | (simp (maxDischargeDepth := 16) only [*, ↓vD, vU, ↓vMd, vMu, vZ, seval, k_app, k_slc1]) | (with_reducible refine gs (fun _ => ?_) (fun _ => ?_)) | (with_reducible refine cs_ (fun _ => ?_) (fun _ => ?_)) | (with_reducible refine appK_a ?_)))
                refine callH_then (HZ.out.2.1 kA kB) ?_
                rintro _ _ ⟨rfl, rfl⟩
                (repeat' (first | (simp (maxDischargeDepth := 16) only [*, ↓vD, vU, ↓vMd, vMu, vZ, seval, k_app, k_slc1]) | (with_reducible refine gs (fun _ => ?_) (fun _ => ?_)) | (with_reducible refine cs_ (fun _ => ?_) (fun _ => ?_)) | (with_reducible refine appK_a ?_)))
                refine callH_then (HZ.out.2.2.2.1 k3 kC) ?_
                rintro _ _ ⟨rfl, M1, rfl, t1, t2⟩
                have hM1 : l1.length + w1.length = M1.length := by simpa using t2.1
                have T := Hid.mk (And.intro t1 (And.intro t2 hM1))
                clear t1 t2 hM1
                (repeat' (first | (simp (maxDischargeDepth := 16) only [*, ↓vD, vU, ↓vMd, vMu, vZ, seval, k_app, k_slc1]) | (with_reducible refine gs (fun _ => ?_) (fun _ => ?_)) | (with_reducible refine cs_ (fun _ => ?_) (fun _ => ?_)) | (with_reducible refine appK_a ?_)))
                have hH2 := HZ.out.2.2.2.2.2.1 M1 T.out.2.2 kD k6
                refine callH_then hH2 ?_
                rintro _ _ ⟨rfl, M2, rfl, t3, t4⟩
                have T2 := Hid.mk (And.intro t3 t4)
                clear t3 t4 hH2
                (repeat' (first | (simp (maxDischargeDepth := 16) only [*, ↓vD, vU, ↓vMd, vMu, vZ, seval, k_app, k_slc1]) | (with_reducible refine gs (fun _ => ?_) (fun _ => ?_)) | (with_reducible refine cs_ (fun _ => ?_) (fun _ => ?_)) | (with_reducible refine appK_a ?_)))
                exact ⟨_, St.le.refl _, rfl, M1 ++ M2, by simp, HZ.out.1 _ _ T.out.1 T2.out.1 T.out.2.1 T2.out.2⟩
              · have kD : mid < en := HZ.out.2.2.2.2.2.2.2.1.1 kA
                have kC : s1 < mid := HZ.out.2.2.2.2.2.2.2.2.1 kB
                (repeat' (first | (simp (maxDischargeDepth := 16) only [*, ↓vD, vU, ↓vMd, vMu, vZ, seval, k_app, k_slc1]) | (with_reducible refine gs (fun _ => ?_) (fun _ => ?_)) | (with_reducible refine cs_ (fun _ => ?_) (fun _ => ?_)) | (with_reducible refine appK_a ?_)))
                refine callH_then (HZ.out.2.1 kA kB) ?_
                rintro _ _ ⟨rfl, rfl⟩
                (repeat' (first | (simp (maxDischargeDepth := 16) only [*, ↓vD, vU, ↓vMd, vMu, vZ, seval, k_app, k_slc1]) | (with_reducible refine gs (fun _ => ?_) (fun _ => ?_)) | (with_reducible refine cs_ (fun _ => ?_) (fun _ => ?_)) | (with_reducible refine appK_a ?_)))
                refine callH_then (HZ.out.2.2.2.1 k3 kC) ?_
                rintro _ _ ⟨rfl, M1, rfl, t1, t2⟩
                have hM1 : l1.length + w1.length = M1.length := by simpa using t2.1
                have T := Hid.mk (And.intro t1 (And.intro t2 hM1))
                clear t1 t2 hM1
                (repeat' (first | (simp (maxDischargeDepth := 16) only [*, ↓vD, vU, ↓vMd, vMu, vZ, seval, k_app, k_slc1]) | (with_reducible refine gs (fun _ => ?_) (fun _ => ?_)) | (with_reducible refine cs_ (fun _ => ?_) (fun _ => ?_)) | (with_reducible refine appK_a ?_)))
                exact ⟨_, St.le.refl _, rfl, M1 ++ (l2 ++ w2), by simp, HZ.out.1 _ _ T.out.1 (HZ.out.2.2.2.2.2.2.1 (fun h => k6 h.2)) T.out.2.1 (Stb.refl _)⟩
            · by_cases k6 : en < b
              · have kD : mid < en := HZ.out.2.2.2.2.2.2.2.1.1 kA
                have kC : s1 < mid := HZ.out.2.2.2.2.2.2.2.2.1 kB
                (repeat' (first | (simp (maxDischargeDepth := 16) only [*, ↓vD, vU, ↓vMd, vMu, vZ, seval, k_app, k_slc1]) | (with_reducible refine gs (fun _ => ?_) (fun _ => ?_)) | (with_reducible refine cs_ (fun _ => ?_) (fun _ => ?_)) | (with_reducible refine appK_a ?_)))
                refine callH_then (HZ.out.2.1 kA kB) ?_
                rintro _ _ ⟨rfl, rfl⟩
                (repeat' (first | (simp (maxDischargeDepth := 16) only [*, ↓vD, vU, ↓vMd, vMu, vZ, seval, k_app, k_slc1]) | (with_reducible refine gs (fun _ => ?_) (fun _ => ?_)) | (with_reducible refine cs_ (fun _ => ?_) (fun _ => ?_)) | (with_reducible refine appK_a ?_)))
                have hH2 := HZ.out.2.2.2.2.2.1 (l1 ++ w1) (by simp) kD k6
                rw [List.append_assoc] at hH2
                refine callH_then hH2 ?_
                rintro _ _ ⟨rfl, M2, rfl, t3, t4⟩
                have T2 := Hid.mk (And.intro t3 t4)
                clear t3 t4 hH2
                (repeat' (first | (simp (maxDischargeDepth := 16) only [*, ↓vD, vU, ↓vMd, vMu, vZ, seval, k_app, k_slc1]) | (with_reducible refine gs (fun _ => ?_) (fun _ => ?_)) | (with_reducible refine cs_ (fun _ => ?_) (fun _ => ?_)) | (with_reducible refine appK_a ?_)))
                exact ⟨_, St.le.refl _, rfl, (l1 ++ w1) ++ M2, by simp, HZ.out.1 _ _ (HZ.out.2.2.2.2.1 (fun h => k3 h.1)) T2.out.1 (Stb.refl _) T2.out.2⟩
              · have kD : mid < en := HZ.out.2.2.2.2.2.2.2.1.1 kA
                have kC : s1 < mid := HZ.out.2.2.2.2.2.2.2.2.1 kB
                (repeat' (first | (simp (maxDischargeDepth := 16) only [*, ↓vD, vU, ↓vMd, vMu, vZ, seval, k_app, k_slc1]) | (with_reducible refine gs (fun _ => ?_) (fun _ => ?_)) | (with_reducible refine cs_ (fun _ => ?_) (fun _ => ?_)) | (with_reducible refine appK_a ?_)))
                refine callH_then (HZ.out.2.1 kA kB) ?_
                rintro _ _ ⟨rfl, rfl⟩
                (repeat' (first | (simp (maxDischargeDepth := 16) only [*, ↓vD, vU, ↓vMd, vMu, vZ, seval, k_app, k_slc1]) | (with_reducible refine gs (fun _ => ?_) (fun _ => ?_)) | (with_reducible refine cs_ (fun _ => ?_) (fun _ => ?_)) | (with_reducible refine appK_a ?_)))
                exact ⟨_, St.le.refl _, rfl, (l1 ++ w1) ++ (l2 ++ w2), by simp, HZ.out.1 _ _ (HZ.out.2.2.2.2.1 (fun h => k3 h.1)) (HZ.out.2.2.2.2.2.2.1 (fun h => k6 h.2)) (Stb.refl _) (Stb.refl _)⟩
          · by_cases k3 : a < s1
            · by_cases k6 : en < b
              · have kD : mid < en := HZ.out.2.2.2.2.2.2.2.1.1 kA
                have kC : ¬ s1 < mid := fun h => kB (HZ.out.2.2.2.2.2.2.2.2.2 h)
                rw [HZ.out.2.2.1 (fun h => kB h.2)]
                (repeat' (first | (simp (maxDischargeDepth := 16) only [*, ↓vD, vU, ↓vMd, vMu, vZ, seval, k_app, k_slc1]) | (with_reducible refine gs (fun _ => ?_) (fun _ => ?_)) | (with_reducible refine cs_ (fun _ => ?_) (fun _ => ?_)) | (with_reducible refine appK_a ?_)))
                have hH2 := HZ.out.2.2.2.2.2.1 (l1 ++ w1) (by simp) kD k6
                rw [List.append_assoc] at hH2
                refine callH_then hH2 ?_
                rintro _ _ ⟨rfl, M2, rfl, t3, t4⟩
                have T2 := Hid.mk (And.intro t3 t4)
                clear t3 t4 hH2
                (repeat' (first | (simp (maxDischargeDepth := 16) only [*, ↓vD, vU, ↓vMd, vMu, vZ, seval, k_app, k_slc1]) | (with_reducible refine gs (fun _ => ?_) (fun _ => ?_)) | (with_reducible refine cs_ (fun _ => ?_) (fun _ => ?_)) | (with_reducible refine appK_a ?_)))
                exact ⟨_, St.le.refl _, rfl, (l1 ++ w1) ++ M2, by simp, HZ.out.1 _ _ (HZ.out.2.2.2.2.1 (fun h => kC h.2)) T2.out.1 (Stb.refl _) T2.out.2⟩
              · have kD : mid < en := HZ.out.2.2.2.2.2.2.2.1.1 kA
                have kC : ¬ s1 < mid := fun h => kB (HZ.out.2.2.2.2.2.2.2.2.2 h)
                rw [HZ.out.2.2.1 (fun h => kB h.2)]
                (repeat' (first | (simp (maxDischargeDepth := 16) only [*, ↓vD, vU, ↓vMd, vMu, vZ, seval, k_app, k_slc1]) | (with_reducible refine gs (fun _ => ?_) (fun _ => ?_)) | (with_reducible refine cs_ (fun _ => ?_) (fun _ => ?_)) | (with_reducible refine appK_a ?_)))
                exact ⟨_, St.le.refl _, rfl, (l1 ++ w1) ++ (l2 ++ w2), by simp, HZ.out.1 _ _ (HZ.out.2.2.2.2.1 (fun h => kC h.2)) (HZ.out.2.2.2.2.2.2.1 (fun h => k6 h.2)) (Stb.refl _) (Stb.refl _)⟩
            · by_cases k6 : en < b
              · have kD : mid < en := HZ.out.2.2.2.2.2.2.2.1.1 kA
                have kC : ¬ s1 < mid := fun h => kB (HZ.out.2.2.2.2.2.2.2.2.2 h)
                rw [HZ.out.2.2.1 (fun h => kB h.2)]
                (repeat' (first | (simp (maxDischargeDepth := 16) only [*, ↓vD, vU, ↓vMd, vMu, vZ, seval, k_app, k_slc1]) | (with_reducible refine gs (fun _ => ?_) (fun _ => ?_)) | (with_reducible refine cs_ (fun _ => ?_) (fun _ => ?_)) | (with_reducible refine appK_a ?_)))
                have hH2 := HZ.out.2.2.2.2.2.1 (l1 ++ w1) (by simp) kD k6
                rw [List.append_assoc] at hH2
                refine callH_then hH2 ?_
                rintro _ _ ⟨rfl, M2, rfl, t3, t4⟩
                have T2 := Hid.mk (And.intro t3 t4)
                clear t3 t4 hH2
                (repeat' (first | (simp (maxDischargeDepth := 16) only [*, ↓vD, vU, ↓vMd, vMu, vZ, seval, k_app, k_slc1]) | (with_reducible refine gs (fun _ => ?_) (fun _ => ?_)) | (with_reducible refine cs_ (fun _ => ?_) (fun _ => ?_)) | (with_reducible refine appK_a ?_)))
                exact ⟨_, St.le.refl _, rfl, (l1 ++ w1) ++ M2, by simp, HZ.out.1 _ _ (HZ.out.2.2.2.2.1 (fun h => kC h.2)) T2.out.1 (Stb.refl _) T2.out.2⟩
              · have kD : mid < en := HZ.out.2.2.2.2.2.2.2.1.1 kA
                have kC : ¬ s1 < mid := fun h => kB (HZ.out.2.2.2.2.2.2.2.2.2 h)
                rw [HZ.out.2.2.1 (fun h => kB h.2)]
                (repeat' (first | (simp (maxDischargeDepth := 16) only [*, ↓vD, vU, ↓vMd, vMu, vZ, seval, k_app, k_slc1]) | (with_reducible refine gs (fun _ => ?_) (fun _ => ?_)) | (with_reducible refine cs_ (fun _ => ?_) (fun _ => ?_)) | (with_reducible refine appK_a ?_)))
                exact ⟨_, St.le.refl _, rfl, (l1 ++ w1) ++ (l2 ++ w2), by simp, HZ.out.1 _ _ (HZ.out.2.2.2.2.1 (fun h => kC h.2)) (HZ.out.2.2.2.2.2.2.1 (fun h => k6 h.2)) (Stb.refl _) (Stb.refl _)⟩
        · by_cases kB : m < en
          · by_cases k3 : a < s1
            · by_cases k6 : en < b
              · have kD : ¬ mid < en := fun h => kA (HZ.out.2.2.2.2.2.2.2.1.2 h)
                have kC : s1 < mid := HZ.out.2.2.2.2.2.2.2.2.1 kB
                rw [HZ.out.2.2.1 (fun h => kA h.1)]
                (repeat' (first | (simp (maxDischargeDepth := 16) only [*, ↓vD, vU, ↓vMd, vMu, vZ, seval, k_app, k_slc1]) | (with_reducible refine gs (fun _ => ?_) (fun _ => ?_)) | (with_reducible refine cs_ (fun _ => ?_) (fun _ => ?_)) | (with_reducible refine appK_a ?_)))
                refine callH_then (HZ.out.2.2.2.1 k3 kC) ?_
                rintro _ _ ⟨rfl, M1, rfl, t1, t2⟩
                have hM1 : l1.length + w1.length = M1.length := by simpa using t2.1
                have T := Hid.mk (And.intro t1 (And.intro t2 hM1))
                clear t1 t2 hM1
                (repeat' (first | (simp (maxDischargeDepth := 16) only [*, ↓vD, vU, ↓vMd, vMu, vZ, seval, k_app, k_slc1]) | (with_reducible refine gs (fun _ => ?_) (fun _ => ?_)) | (with_reducible refine cs_ (fun _ => ?_) (fun _ => ?_)) | (with_reducible refine appK_a ?_)))
                exact ⟨_, St.le.refl _, rfl, M1 ++ (l2 ++ w2), by simp, HZ.out.1 _ _ T.out.1 (HZ.out.2.2.2.2.2.2.1 (fun h => kD h.1)) T.out.2.1 (Stb.refl _)⟩
              · have kD : ¬ mid < en := fun h => kA (HZ.out.2.2.2.2.2.2.2.1.2 h)
                have kC : s1 < mid := HZ.out.2.2.2.2.2.2.2.2.1 kB
                rw [HZ.out.2.2.1 (fun h => kA h.1)]
                (repeat' (first | (simp (maxDischargeDepth := 16) only [*, ↓vD, vU, ↓vMd, vMu, vZ, seval, k_app, k_slc1]) | (with_reducible refine gs (fun _ => ?_) (fun _ => ?_)) | (with_reducible refine cs_ (fun _ => ?_) (fun _ => ?_)) | (with_reducible refine appK_a ?_)))
                refine callH_then (HZ.out.2.2.2.1 k3 kC) ?_
                rintro _ _ ⟨rfl, M1, rfl, t1, t2⟩
                have hM1 : l1.length + w1.length = M1.length := by simpa using t2.1
                have T := Hid.mk (And.intro t1 (And.intro t2 hM1))
                clear t1 t2 hM1
                (repeat' (first | (simp (maxDischargeDepth := 16) only [*, ↓vD, vU, ↓vMd, vMu, vZ, seval, k_app, k_slc1]) | (with_reducible refine gs (fun _ => ?_) (fun _ => ?_)) | (with_reducible refine cs_ (fun _ => ?_) (fun _ => ?_)) | (with_reducible refine appK_a ?_)))
                exact ⟨_, St.le.refl _, rfl, M1 ++ (l2 ++ w2), by simp, HZ.out.1 _ _ T.out.1 (HZ.out.2.2.2.2.2.2.1 (fun h => kD h.1)) T.out.2.1 (Stb.refl _)⟩
            · by_cases k6 : en < b
              · have kD : ¬ mid < en := fun h => kA (HZ.out.2.2.2.2.2.2.2.1.2 h)
                have kC : s1 < mid := HZ.out.2.2.2.2.2.2.2.2.1 kB
                rw [HZ.out.2.2.1 (fun h => kA h.1)]
                (repeat' (first | (simp (maxDischargeDepth := 16) only [*, ↓vD, vU, ↓vMd, vMu, vZ, seval, k_app, k_slc1]) | (with_reducible refine gs (fun _ => ?_) (fun _ => ?_)) | (with_reducible refine cs_ (fun _ => ?_) (fun _ => ?_)) | (with_reducible refine appK_a ?_)))
                exact ⟨_, St.le.refl _, rfl, (l1 ++ w1) ++ (l2 ++ w2), by simp, HZ.out.1 _ _ (HZ.out.2.2.2.2.1 (fun h => k3 h.1)) (HZ.out.2.2.2.2.2.2.1 (fun h => kD h.1)) (Stb.refl _) (Stb.refl _)⟩
              · have kD : ¬ mid < en := fun h => kA (HZ.out.2.2.2.2.2.2.2.1.2 h)
                have kC : s1 < mid := HZ.out.2.2.2.2.2.2.2.2.1 kB
                rw [HZ.out.2.2.1 (fun h => kA h.1)]
                (repeat' (first | (simp (maxDischargeDepth := 16) only [*, ↓vD, vU, ↓vMd, vMu, vZ, seval, k_app, k_slc1]) | (with_reducible refine gs (fun _ => ?_) (fun _ => ?_)) | (with_reducible refine cs_ (fun _ => ?_) (fun _ => ?_)) | (with_reducible refine appK_a ?_)))
                exact ⟨_, St.le.refl _, rfl, (l1 ++ w1) ++ (l2 ++ w2), by simp, HZ.out.1 _ _ (HZ.out.2.2.2.2.1 (fun h => k3 h.1)) (HZ.out.2.2.2.2.2.2.1 (fun h => kD h.1)) (Stb.refl _) (Stb.refl _)⟩
          · by_cases k3 : a < s1
            · by_cases k6 : en < b
              · have kD : ¬ mid < en := fun h => kA (HZ.out.2.2.2.2.2.2.2.1.2 h)
                have kC : ¬ s1 < mid := fun h => kB (HZ.out.2.2.2.2.2.2.2.2.2 h)
                rw [HZ.out.2.2.1 (fun h => kA h.1)]
                (repeat' (first | (simp (maxDischargeDepth := 16) only [*, ↓vD, vU, ↓vMd, vMu, vZ, seval, k_app, k_slc1]) | (with_reducible refine gs (fun _ => ?_) (fun _ => ?_)) | (with_reducible refine cs_ (fun _ => ?_) (fun _ => ?_)) | (with_reducible refine appK_a ?_)))
                exact ⟨_, St.le.refl _, rfl, (l1 ++ w1) ++ (l2 ++ w2), by simp, HZ.out.1 _ _ (HZ.out.2.2.2.2.1 (fun h => kC h.2)) (HZ.out.2.2.2.2.2.2.1 (fun h => kD h.1)) (Stb.refl _) (Stb.refl _)⟩
              · have kD : ¬ mid < en := fun h => kA (HZ.out.2.2.2.2.2.2.2.1.2 h)
                have kC : ¬ s1 < mid := fun h => kB (HZ.out.2.2.2.2.2.2.2.2.2 h)
                rw [HZ.out.2.2.1 (fun h => kA h.1)]
                (repeat' (first | (simp (maxDischargeDepth := 16) only [*, ↓vD, vU, ↓vMd, vMu, vZ, seval, k_app, k_slc1]) | (with_reducible refine gs (fun _ => ?_) (fun _ => ?_)) | (with_reducible refine cs_ (fun _ => ?_) (fun _ => ?_)) | (with_reducible refine appK_a ?_)))
                exact ⟨_, St.le.refl _, rfl, (l1 ++ w1) ++ (l2 ++ w2), by simp, HZ.out.1 _ _ (HZ.out.2.2.2.2.1 (fun h => kC h.2)) (HZ.out.2.2.2.2.2.2.1 (fun h => kD h.1)) (Stb.refl _) (Stb.refl _)⟩
            · by_cases k6 : en < b
              · have kD : ¬ mid < en := fun h => kA (HZ.out.2.2.2.2.2.2.2.1.2 h)
                have kC : ¬ s1 < mid := fun h => kB (HZ.out.2.2.2.2.2.2.2.2.2 h)
                rw [HZ.out.2.2.1 (fun h => kA h.1)]
                (repeat' (first | (simp (maxDischargeDepth := 16) only [*, ↓vD, vU, ↓vMd, vMu, vZ, seval, k_app, k_slc1]) | (with_reducible refine gs (fun _ => ?_) (fun _ => ?_)) | (with_reducible refine cs_ (fun _ => ?_) (fun _ => ?_)) | (with_reducible refine appK_a ?_)))
                exact ⟨_, St.le.refl _, rfl, (l1 ++ w1) ++ (l2 ++ w2), by simp, HZ.out.1 _ _ (HZ.out.2.2.2.2.1 (fun h => kC h.2)) (HZ.out.2.2.2.2.2.2.1 (fun h => kD h.1)) (Stb.refl _) (Stb.refl _)⟩
              · have kD : ¬ mid < en := fun h => kA (HZ.out.2.2.2.2.2.2.2.1.2 h)
                have kC : ¬ s1 < mid := fun h => kB (HZ.out.2.2.2.2.2.2.2.2.2 h)
                rw [HZ.out.2.2.1 (fun h => kA h.1)]
                (repeat' (first | (simp (maxDischargeDepth := 16) only [*, ↓vD, vU, ↓vMd, vMu, vZ, seval, k_app, k_slc1]) | (with_reducible refine gs (fun _ => ?_) (fun _ => ?_)) | (with_reducible refine cs_ (fun _ => ?_) (fun _ => ?_)) | (with_reducible refine appK_a ?_)))
                exact ⟨_, St.le.refl _, rfl, (l1 ++ w1) ++ (l2 ++ w2), by simp, HZ.out.1 _ _ (HZ.out.2.2.2.2.1 (fun h => kC h.2)) (HZ.out.2.2.2.2.2.2.1 (fun h => kD h.1)) (Stb.refl _) (Stb.refl _)⟩
end Go.Proofs.YtglekfgoadehbaaDoor.V.SoSeg
end
section
set_option linter.unusedSimpArgs false
set_option linter.unusedVariables false
/- slices.SortStableFunc at livery/api.Seg: the merge, the whole. -/
namespace Go.Proofs.YtglekfgoadehbaaDoor.V.SoSeg
open Go Go.Proofs Go.Proofs.YtglekfgoadehbaaDoor.SP
set_option maxRecDepth 100000
variable {α : Type} [Inhabited α] {Z : Im}
theorem symMerge (f : α → AV) (hok : ∀ x, okEl 3 (f x) = true) (hag : ∀ x, AV.agg (f x).cells = f x) {gf : Nat} {fs cs : List AV} (cf : α → α → Int) (o : SWO (ltB cf)) {Q : St → Prop} (hc : ∀ x y (Y : Im) (s : St), Q s → VCalls Tryd.prog Y gf (fs ++ [f x, f y] ++ cs) s (fun r s' => r = .int .i64 (cf x y) ∧ s' = s))
    (st : St) (bb L c : Nat) (hQst : ∀ (rest : List AV) (xs : List α), Q (ob st bb f rest xs)) (rest : List AV) (hm : L ≤ 1000000000) : ∀ (d : Nat) (a m b : Nat) (A U V C : List α), A.length = a → a + U.length = m → m + V.length = b → 0 < U.length → 0 < V.length → Srt (ltB cf) U → Srt (ltB cf) V → (A ++ (U ++ (V ++ C))).length = L → U.length + V.length ≤ d →
      VCalls Tryd.prog Z 100 [.osl bb L c, .int .i64 a, .int .i64 m, .int .i64 b, .clo gf fs cs] (ob st bb f rest (A ++ (U ++ (V ++ C)))) (SymK f cf st bb rest A U V C)
  | 0, _, _, _, _, _, _, _, _, _, _, hU, _, _, _, _, hd => by omega
  | d + 1, a, m, b, A, U, V, C, ha, hm0, hb, hU, hV, sU, sV, hL, hd => by
    by_cases h1 : U.length = 1
    · obtain ⟨x, rfl⟩ := List.length_eq_one_iff.1 h1
      exact sym_left f hok hag cf o hc st bb L c hQst rest A V C x a m b ha (by simpa using hm0) hb hV sV hL hm
    · by_cases h2 : V.length = 1
      · obtain ⟨y, rfl⟩ := List.length_eq_one_iff.1 h2
        exact sym_right f hok hag cf o hc st bb L c hQst rest A U C y a m b ha hm0 (by simpa using hb) (by omega) sU hL hm
      · exact sym_mid f hok hag cf o hc st bb L c hQst rest d (symMerge f hok hag cf o hc st bb L c hQst rest hm d) A U V C a m b ha hm0 hb (by omega) (by omega) sU sV hL hm (by omega)
set_option maxHeartbeats 4000000 in
theorem stable (f : α → AV) (hok : ∀ x, okEl 3 (f x) = true) (hag : ∀ x, AV.agg (f x).cells = f x) {gf : Nat} {fs cs : List AV} (cf : α → α → Int) (o : SWO (ltB cf)) {Q : St → Prop} (hc : ∀ x y (Y : Im) (s : St), Q s → VCalls Tryd.prog Y gf (fs ++ [f x, f y] ++ cs) s (fun r s' => r = .int .i64 (cf x y) ∧ s' = s))
    (st : St) (bb L c : Nat) (hQst : ∀ (rest : List AV) (xs : List α), Q (ob st bb f rest xs)) (rest : List AV) (xs : List α) (hL : xs.length = L) (hm : L ≤ 1000000000) :
    VCalls Tryd.prog Z 94 [.osl bb L c, .int .i64 L, .clo gf fs cs] (ob st bb f rest xs) (fun r s => r = .tup [] ∧ s = ob st bb f rest (sortS (ltB cf) xs)) := by
  refine VCalls.of v_slices_stableCmpFunc_api_Seg_ok (Nat.le_of_ble_eq_true rfl) ?_
  simp only [v_slices_stableCmpFunc_api_Seg, ↓vD, vU, ↓vMd, vMu, vZ, seval, k_app, k_slc1]
  refine loopm_of (by simp only [asgL, dsts, List.cons_append, List.nil_append, List.append_nil]; rfl) (by simp only [noR, Bool.and_true, Bool.and_false]; rfl) (fun fr s => ∃ (a b : Nat) (D R : List α), fr.t 7 = .int .i64 a ∧ fr.t 8 = .int .i64 b ∧ s = ob st bb f rest (D ++ R) ∧ a + 20 = b ∧ D.length = a ∧ Full (ltB cf) 20 D ∧ Stb (ltB cf) xs (D ++ R)) (fun fr _ => L - (match fr.t 7 with | .int _ n => n.toNat | _ => 0)) ?_ ?_
  · exact ⟨0, 20, [], xs, by simp [↓vD, vU, ↓vMd, vMu, vZ, seval, k_app, k_slc1], by simp [↓vD, vU, ↓vMd, vMu, vZ, seval, k_app, k_slc1], rfl, rfl, rfl, Full.nil 20, Stb.refl _⟩
  · rintro fr s hf hd ⟨a, b, D, R, h7, h8, rfl, hab, hD, hF, hS⟩
    have hlen : a + R.length = L := by have := hS.1; simp at this; omega
    by_cases hlt : b ≤ L
    · have hR20 : 20 ≤ R.length := by omega
      have w1 : IntKind.i64.wrap ((b : Int) + 20) = ((b + 20 : Nat) : Int) := by rw [wrap_i64 _ (by omega) (by omega)]; omega
      have hins := insertion (Z := Z) f hok hag cf o hc st bb L c hQst rest D (R.take 20) (R.drop 20) a b hD (by simp; omega) (by rw [List.take_append_drop]; simp; omega) hm
      rw [List.take_append_drop] at hins
      (repeat' (first | (simp (maxDischargeDepth := 16) only [*, ↓vD, vU, ↓vMd, vMu, vZ, seval, k_app, k_slc1]) | (with_reducible refine gs (fun _ => ?_) (fun _ => ?_)) | (with_reducible refine cs_ (fun _ => ?_) (fun _ => ?_)) | (with_reducible refine appK_a ?_)))
      refine callH_then hins ?_
      rintro _ _ ⟨rfl, M, rfl, hs, hk⟩
      have hl := hk.1
      (repeat' (first | (simp (maxDischargeDepth := 16) only [*, ↓vD, vU, ↓vMd, vMu, vZ, seval, k_app, k_slc1]) | (with_reducible refine gs (fun _ => ?_) (fun _ => ?_)) | (with_reducible refine cs_ (fun _ => ?_) (fun _ => ?_)) | (with_reducible refine appK_a ?_)))
      refine ⟨_, St.le.refl _, ⟨b, b + 20, D ++ M, R.drop 20, rfl, by omega, by rw [List.append_assoc], rfl, by have := hk.1; simp at this ⊢; omega, hF.snoc (by have := hk.1; simp at this; omega) hs, ?_⟩, by simp only [tn0]; omega⟩
      refine hS.trans ?_
      rw [List.append_assoc]
      refine Stb.append (Stb.refl _) ?_
      have h2 := Stb.append hk (Stb.refl (lt := ltB cf) (R.drop 20))
      rwa [List.take_append_drop] at h2
    · have hins := insertion (Z := Z) f hok hag cf o hc st bb L c hQst rest D R [] a L hD (by omega) (by simp; omega) hm
      rw [List.append_nil] at hins
      (repeat' (first | (simp (maxDischargeDepth := 16) only [*, ↓vD, vU, ↓vMd, vMu, vZ, seval, k_app, k_slc1]) | (with_reducible refine gs (fun _ => ?_) (fun _ => ?_)) | (with_reducible refine cs_ (fun _ => ?_) (fun _ => ?_)) | (with_reducible refine appK_a ?_)))
      refine callH_then hins ?_
      rintro _ _ ⟨rfl, M, rfl, hs, hk⟩
      have hl := hk.1
      have HB : Hid (∃ ys, D ++ (M ++ []) = ys ∧ Bk (ltB cf) 20 ys ∧ Stb (ltB cf) xs ys) := ⟨⟨D ++ M, by simp, hF _ (Bk.last M hs (by omega)), hS.trans (Stb.append (Stb.refl _) hk)⟩⟩
      clear hs hk hl hins hF hS hD hlen hlt hab
      (repeat' (first | (simp (maxDischargeDepth := 16) only [*, ↓vD, vU, ↓vMd, vMu, vZ, seval, k_app, k_slc1]) | (with_reducible refine gs (fun _ => ?_) (fun _ => ?_)) | (with_reducible refine cs_ (fun _ => ?_) (fun _ => ?_)) | (with_reducible refine appK_a ?_)))
      refine loopm_of (by simp only [asgL, dsts, List.cons_append, List.nil_append, List.append_nil]; rfl) (by simp only [noR, Bool.and_true, Bool.and_false]; rfl) (fun fr2 s => ∃ (z : Nat) (ys : List α), fr2.t 6 = .int .i64 z ∧ s = ob st bb f rest ys ∧ 20 ≤ z ∧ z ≤ 2000000000 ∧ Bk (ltB cf) z ys ∧ Stb (ltB cf) xs ys) (fun fr2 _ => L - (match fr2.t 6 with | .int _ n => n.toNat | _ => 0)) ?_ ?_
      · obtain ⟨ys, h1, h2, h3⟩ := HB.out
        exact ⟨20, ys, by simp [↓vD, vU, ↓vMd, vMu, vZ, seval, k_app, k_slc1, hf], by rw [← h1]; simp, by omega, by omega, h2, h3⟩
      · rintro fr2 s hf2 hd2 ⟨z, ys, h6, rfl, hz1, hz2, hB, hS⟩
        have hyl : ys.length = L := by have := hS.1; omega
        by_cases hzl : z < L
        · obtain ⟨z2, hz⟩ : ∃ z2, 2 * z = z2 := ⟨_, rfl⟩
          have w1 : IntKind.i64.wrap (2 * (z : Int)) = (z2 : Int) := by rw [wrap_i64 _ (by omega) (by omega)]; omega
          have w2 : IntKind.i64.wrap ((z : Int) * 2) = (z2 : Int) := by rw [wrap_i64 _ (by omega) (by omega)]; omega
          (repeat' (first | (simp (maxDischargeDepth := 16) only [*, ↓vD, vU, ↓vMd, vMu, vZ, seval, k_app, k_slc1]) | (with_reducible refine gs (fun _ => ?_) (fun _ => ?_)) | (with_reducible refine cs_ (fun _ => ?_) (fun _ => ?_)) | (with_reducible refine appK_a ?_)))
          refine loopm_of (by simp only [asgL, dsts, List.cons_append, List.nil_append, List.append_nil]; rfl) (by simp only [noR, Bool.and_true, Bool.and_false]; rfl) (fun fr3 s => ∃ (a b : Nat) (E R : List α), fr3.t 7 = .int .i64 a ∧ fr3.t 8 = .int .i64 b ∧ s = ob st bb f rest (E ++ R) ∧ a + z2 = b ∧ E.length = a ∧ Full (ltB cf) z2 E ∧ Bk (ltB cf) z R ∧ Stb (ltB cf) xs (E ++ R)) (fun fr3 _ => L - (match fr3.t 7 with | .int _ n => n.toNat | _ => 0)) ?_ ?_
          · exact ⟨0, z2, [], ys, by simp [↓vD, vU, ↓vMd, vMu, vZ, seval, k_app, k_slc1], by simp [↓vD, vU, ↓vMd, vMu, vZ, seval, k_app, k_slc1], rfl, by omega, rfl, Full.nil _, hB, hS⟩
          · rintro fr3 s hf3 hd3 ⟨a, b, E, R, h7, h8, rfl, hab, hE, hF, hBR, hSE⟩
            have hlen : a + R.length = L := by have := hSE.1; simp at this; omega
            obtain ⟨mm, hmm⟩ : ∃ mm, a + z = mm := ⟨_, rfl⟩
            have w3 : IntKind.i64.wrap ((a : Int) + z) = (mm : Int) := by rw [wrap_i64 _ (by omega) (by omega)]; omega
            by_cases hlt : b ≤ L
            · obtain ⟨b2, hb2⟩ : ∃ b2, b + z2 = b2 := ⟨_, rfl⟩
              have w4 : IntKind.i64.wrap ((b : Int) + z2) = (b2 : Int) := by rw [wrap_i64 _ (by omega) (by omega)]; omega
              obtain ⟨U, V, R2, hRR, hU, hV, sU, sV, hB2⟩ := hBR.two (by omega)
              subst hRR
              have hsm := symMerge (Z := Z) f hok hag cf o hc st bb L c hQst rest hm _ a mm b E U V R2 hE (by omega) (by omega) (by omega) (by omega) sU sV (by simp at hlen ⊢; omega) (Nat.le_refl _)
              have H := Hid.mk (And.intro hU (And.intro hV (And.intro hlen (And.intro hmm hb2))))
              clear hU hV hlen hmm hb2
              (repeat' (first | (simp (maxDischargeDepth := 16) only [*, ↓vD, vU, ↓vMd, vMu, vZ, seval, k_app, k_slc1]) | (with_reducible refine gs (fun _ => ?_) (fun _ => ?_)) | (with_reducible refine cs_ (fun _ => ?_) (fun _ => ?_)) | (with_reducible refine appK_a ?_)))
              refine callH_then hsm ?_
              rintro _ _ ⟨rfl, M, rfl, hs, hk⟩
              (repeat' (first | (simp (maxDischargeDepth := 16) only [*, ↓vD, vU, ↓vMd, vMu, vZ, seval, k_app, k_slc1]) | (with_reducible refine gs (fun _ => ?_) (fun _ => ?_)) | (with_reducible refine cs_ (fun _ => ?_) (fun _ => ?_)) | (with_reducible refine appK_a ?_)))
              obtain ⟨hU, hV, hlen, hmm, hb2⟩ := H.out
              have hkl := hk.1
              simp only [List.length_append] at hkl
              refine ⟨_, St.le.refl _, ⟨b, b2, E ++ M, R2, rfl, rfl, by rw [List.append_assoc], by omega, by simp only [List.length_append]; omega, hF.snoc (by omega) hs, hB2, ?_⟩, by simp only [tn0]; omega⟩
              refine hSE.trans ?_
              rw [List.append_assoc, ← List.append_assoc U]
              exact Stb.append (Stb.refl _) (Stb.append hk (Stb.refl _))
            · by_cases hml : mm < L
              · obtain ⟨U, V, hRR, hU, hV0, hV1, sU, sV⟩ := hBR.tail (by omega) (by omega)
                subst hRR
                have hsm := symMerge (Z := Z) f hok hag cf o hc st bb L c hQst rest hm _ a mm L E U V [] hE (by omega) (by simp at hlen; omega) (by omega) (by omega) sU sV (by simp at hlen ⊢; omega) (Nat.le_refl _)
                rw [List.append_nil] at hsm
                have H := Hid.mk (And.intro hU (And.intro hlen hmm))
                clear hU hlen hmm
                (repeat' (first | (simp (maxDischargeDepth := 16) only [*, ↓vD, vU, ↓vMd, vMu, vZ, seval, k_app, k_slc1]) | (with_reducible refine gs (fun _ => ?_) (fun _ => ?_)) | (with_reducible refine cs_ (fun _ => ?_) (fun _ => ?_)) | (with_reducible refine appK_a ?_)))
                refine callH_then hsm ?_
                rintro _ _ ⟨rfl, M, rfl, hs, hk⟩
                (repeat' (first | (simp (maxDischargeDepth := 16) only [*, ↓vD, vU, ↓vMd, vMu, vZ, seval, k_app, k_slc1]) | (with_reducible refine gs (fun _ => ?_) (fun _ => ?_)) | (with_reducible refine cs_ (fun _ => ?_) (fun _ => ?_)) | (with_reducible refine appK_a ?_)))
                obtain ⟨hU, hlen, hmm⟩ := H.out
                have hkl := hk.1
                simp only [List.length_append] at hkl
                exact ⟨_, St.le.refl _, ⟨z2, E ++ M, rfl, by simp, by omega, by omega, hF _ (Bk.last M hs (by omega)), hSE.trans (Stb.append (Stb.refl _) hk)⟩, by simp only [tn0]; omega⟩
              · have H := Hid.mk (And.intro hlen hmm)
                clear hlen hmm
                (repeat' (first | (simp (maxDischargeDepth := 16) only [*, ↓vD, vU, ↓vMd, vMu, vZ, seval, k_app, k_slc1]) | (with_reducible refine gs (fun _ => ?_) (fun _ => ?_)) | (with_reducible refine cs_ (fun _ => ?_) (fun _ => ?_)) | (with_reducible refine appK_a ?_)))
                obtain ⟨hlen, hmm⟩ := H.out
                exact ⟨_, St.le.refl _, ⟨z2, E ++ R, rfl, rfl, by omega, by omega, hF _ (Bk.last R (hBR.small (by omega) (by omega)) (by omega)), hSE⟩, by simp only [tn0]; omega⟩
        · have hfin : ys = sortS (ltB cf) xs := sortS_of o (hB.small (by omega) (by omega)) hS
          rw [hfin]
          clear hfin
          (repeat' (first | (simp (maxDischargeDepth := 16) only [*, ↓vD, vU, ↓vMd, vMu, vZ, seval, k_app, k_slc1]) | (with_reducible refine gs (fun _ => ?_) (fun _ => ?_)) | (with_reducible refine cs_ (fun _ => ?_) (fun _ => ?_)) | (with_reducible refine appK_a ?_)))
theorem sortStableQ (f : α → AV) (hok : ∀ x, okEl 3 (f x) = true) (hag : ∀ x, AV.agg (f x).cells = f x) {gf : Nat} {fs cs : List AV} (cf : α → α → Int) (o : SWO (ltB cf)) {Q : St → Prop} (hc : ∀ x y (Y : Im) (s : St), Q s → VCalls Tryd.prog Y gf (fs ++ [f x, f y] ++ cs) s (fun r s' => r = .int .i64 (cf x y) ∧ s' = s))
    (st : St) (bb L c : Nat) (hQst : ∀ (rest : List AV) (xs : List α), Q (ob st bb f rest xs)) (rest : List AV) (xs : List α) (hL : xs.length = L) (hm : L ≤ 1000000000) :
    VCalls Tryd.prog Z 88 [.osl bb L c, .clo gf fs cs] (ob st bb f rest xs) (fun r s => r = .tup [] ∧ s = ob st bb f rest (sortS (ltB cf) xs)) := by
  have hst := stable (Z := Z) f hok hag cf o hc st bb L c hQst rest xs hL hm
  refine VCalls.of v_slices_SortStableFunc_api_Seg_api_Seg_ok (Nat.le_of_ble_eq_true rfl) ?_
  simp only [v_slices_SortStableFunc_api_Seg_api_Seg, ↓vD, vU, ↓vMd, vMu, vZ, seval, k_app, k_slc1]
  have hlen : ∀ (b n c : Nat), vlen (.osl b n c) = some (.int .i64 n) := fun _ _ _ => rfl
  (repeat' (first | (simp (maxDischargeDepth := 16) only [*, ↓vD, vU, ↓vMd, vMu, vZ, seval, k_app, k_slc1]) | (with_reducible refine gs (fun _ => ?_) (fun _ => ?_)) | (with_reducible refine cs_ (fun _ => ?_) (fun _ => ?_)) | (with_reducible refine appK_a ?_)))
  refine callH_then hst ?_
  rintro _ _ ⟨rfl, rfl⟩
  clear hst
  (repeat' (first | (simp (maxDischargeDepth := 16) only [*, ↓vD, vU, ↓vMd, vMu, vZ, seval, k_app, k_slc1]) | (with_reducible refine gs (fun _ => ?_) (fun _ => ?_)) | (with_reducible refine cs_ (fun _ => ?_) (fun _ => ?_)) | (with_reducible refine appK_a ?_)))
theorem sortStable (f : α → AV) (hok : ∀ x, okEl 3 (f x) = true) (hag : ∀ x, AV.agg (f x).cells = f x) {gf : Nat} {fs cs : List AV} (cf : α → α → Int) (o : SWO (ltB cf)) (hc : ∀ x y, VPure Tryd.prog gf (fs ++ [f x, f y] ++ cs) (.int .i64 (cf x y)))
    (st : St) (bb L c : Nat) (rest : List AV) (xs : List α) (hL : xs.length = L) (hm : L ≤ 1000000000) :
    VCalls Tryd.prog Z 88 [.osl bb L c, .clo gf fs cs] (ob st bb f rest xs) (fun r s => r = .tup [] ∧ s = ob st bb f rest (sortS (ltB cf) xs)) :=
  sortStableQ (Q := fun _ => True) f hok hag cf o (fun x y Y s _ => hc x y Y s) st bb L c (fun _ _ => trivial) rest xs hL hm
theorem insertion_nil (t : Tok) (cl : AV) : VPure Tryd.prog 99 [.sl [] t, .int .i64 0, .int .i64 0, cl] (.tup []) := by
  refine VPure.of v_slices_insertionSortCmpFunc_api_Seg_ok (Nat.le_of_ble_eq_true rfl) (fun Z st => ?_)
  simp only [v_slices_insertionSortCmpFunc_api_Seg, ↓vD, vU, ↓vMd, vMu, vZ, seval, k_app, k_slc1]
  refine loop_out ?_
  (repeat' (first | (simp (maxDischargeDepth := 16) only [*, vX, ↓vD, vU, ↓vMd, vMu, vZ, seval]) | (simp (disch := first | assumption | omega | rfl | exact fun _ => rfl) only [vP]) | ((with_reducible first | apply gsnd | apply csnd | apply gsd | apply csd | apply gsn | apply csn | apply gs | apply cs_) <;> intro _)))
theorem stable_nil (t : Tok) (cl : AV) : VPure Tryd.prog 94 [.sl [] t, .int .i64 0, cl] (.tup []) := by
  refine VPure.of v_slices_stableCmpFunc_api_Seg_ok (Nat.le_of_ble_eq_true rfl) (fun Z st => ?_)
  simp only [v_slices_stableCmpFunc_api_Seg, ↓vD, vU, ↓vMd, vMu, vZ, seval, k_app, k_slc1]
  refine loop_out ?_
  (repeat' (first | (simp (maxDischargeDepth := 16) only [*, vX, ↓vD, vU, ↓vMd, vMu, vZ, seval]) | (simp (disch := first | assumption | omega | rfl | exact fun _ => rfl) only [vP]) | ((with_reducible first | apply gsnd | apply csnd | apply gsd | apply csd | apply gsn | apply csn | apply gs | apply cs_) <;> intro _) | (with_reducible first | refine callH_use (insertion_nil _ _) ?_ | refine pureQ_use (insertion_nil _ _) ?_)))
  refine loop_out ?_
  (repeat' (first | (simp (maxDischargeDepth := 16) only [*, vX, ↓vD, vU, ↓vMd, vMu, vZ, seval]) | (simp (disch := first | assumption | omega | rfl | exact fun _ => rfl) only [vP]) | ((with_reducible first | apply gsnd | apply csnd | apply gsd | apply csd | apply gsn | apply csn | apply gs | apply cs_) <;> intro _)))
theorem sortStable_nil (t : Tok) (cl : AV) : VPure Tryd.prog 88 [.sl [] t, cl] (.tup []) := by
  refine VPure.of v_slices_SortStableFunc_api_Seg_api_Seg_ok (Nat.le_of_ble_eq_true rfl) (fun Z st => ?_)
  simp only [v_slices_SortStableFunc_api_Seg_api_Seg, ↓vD, vU, ↓vMd, vMu, vZ, seval, k_app, k_slc1]
  (repeat' (first | (simp (maxDischargeDepth := 16) only [*, vX, ↓vD, vU, ↓vMd, vMu, vZ, seval]) | (simp (disch := first | assumption | omega | rfl | exact fun _ => rfl) only [vP]) | ((with_reducible first | apply gsnd | apply csnd | apply gsd | apply csd | apply gsn | apply csn | apply gs | apply cs_) <;> intro _) | (with_reducible first | refine callH_use (stable_nil _ _) ?_ | refine pureQ_use (stable_nil _ _) ?_)))
end Go.Proofs.YtglekfgoadehbaaDoor.V.SoSeg
end
section
set_option linter.unusedSimpArgs false
set_option linter.unusedVariables false
/- rle.folded, Of, Box. -/
namespace Go.Proofs.YtglekfgoadehbaaDoor.V
open Go Go.Proofs Go.Proofs.YtglekfgoadehbaaDoor.SP
set_option maxRecDepth 100000
theorem Seg.ok (x : Seg) : okEl 3 x.a = true := rfl
theorem Seg.ag (x : Seg) : AV.agg x.a.cells = x.a := rfl
theorem Clone_v {Z : Im} (xs : List Seg) (hn : xs.length ≤ 1000000000) (t : Tok) (st : St) : VCalls Tryd.prog Z 87 [.sl (xs.map Seg.a) t] st
    (fun r s => (xs = [] ∧ ∃ t', r = .sl [] t' ∧ s = st) ∨ ∃ b c rest, xs ≠ [] ∧ st.objs b = none ∧ r = .osl b xs.length c ∧ s = ob st b Seg.a rest xs) := by
  refine VCalls.of v_slices_Clone_api_Seg_api_Seg_ok (Nat.le_of_ble_eq_true rfl) ?_
  simp only [v_slices_Clone_api_Seg_api_Seg, ↓vD, vU, ↓vMd, vMu, VE.ev, VE.evs, retvs, tupOf, grab, vfill, vbsl, eqCells, eqCell, veqs, veqs1, vmnx, AV.isCell, AV.isUndef, Nat.reduceEqDiff, Nat.reduceAdd, Nat.reduceSub, Nat.reduceLeDiff, Nat.reduceLT, reduceIte, reduceCtorEq, Nat.reduceBEq, k_app, k_slc1]
  cases xs with
  | nil =>
    (repeat' (first | (simp (config := { maxDischargeDepth := 16 }) only [*, ↓vD, vU, ↓vMd, vMu, VE.ev, VE.evs, retvs, tupOf, grab, vfill, vbsl, eqCells, eqCell, veqs, veqs1, vmnx, AV.isCell, AV.isUndef, Nat.reduceEqDiff, Nat.reduceAdd, Nat.reduceSub, Nat.reduceLeDiff, Nat.reduceLT, reduceIte, reduceCtorEq, Nat.reduceBEq, k_app, k_slc1]) | (with_reducible refine gs (fun _ => ?_) (fun _ => ?_)) | (with_reducible refine cs_ (fun _ => ?_) (fun _ => ?_)) | (with_reducible refine objQ_i (fun _ _ => ?_); (repeat (with_reducible refine imp_i (fun _ => ?_)))) | (with_reducible refine appK_a ?_) | (with_reducible refine freshQ_i (fun _ _ => ?_)) | (with_reducible refine nilQ_i (fun _ _ => ?_))))
    · exact ⟨st, St.le.refl _, .inl ⟨_, rfl, rfl⟩⟩
    · refine ⟨by simp, by simp, by simp, ?_⟩
      (repeat' (first | (simp (config := { maxDischargeDepth := 16 }) only [*, ↓vD, vU, ↓vMd, vMu, VE.ev, VE.evs, retvs, tupOf, grab, vfill, vbsl, eqCells, eqCell, veqs, veqs1, vmnx, AV.isCell, AV.isUndef, Nat.reduceEqDiff, Nat.reduceAdd, Nat.reduceSub, Nat.reduceLeDiff, Nat.reduceLT, reduceIte, reduceCtorEq, Nat.reduceBEq, k_app, k_slc1]) | (with_reducible refine gs (fun _ => ?_) (fun _ => ?_)) | (with_reducible refine cs_ (fun _ => ?_) (fun _ => ?_)) | (with_reducible refine objQ_i (fun _ _ => ?_); (repeat (with_reducible refine imp_i (fun _ => ?_)))) | (with_reducible refine appK_a ?_) | (with_reducible refine freshQ_i (fun _ _ => ?_)) | (with_reducible refine nilQ_i (fun _ _ => ?_))))
      exact ⟨st, le_add (St.le.refl _) _, .inl ⟨_, rfl, rfl⟩⟩
  | cons x xs =>
    (repeat' (first | (simp (config := { maxDischargeDepth := 16 }) only [*, ↓vD, vU, ↓vMd, vMu, VE.ev, VE.evs, retvs, tupOf, grab, vfill, vbsl, eqCells, eqCell, veqs, veqs1, vmnx, AV.isCell, AV.isUndef, Nat.reduceEqDiff, Nat.reduceAdd, Nat.reduceSub, Nat.reduceLeDiff, Nat.reduceLT, reduceIte, reduceCtorEq, Nat.reduceBEq, k_app, k_slc1]) | (with_reducible refine gs (fun _ => ?_) (fun _ => ?_)) | (with_reducible refine cs_ (fun _ => ?_) (fun _ => ?_)) | (with_reducible refine objQ_i (fun _ _ => ?_); (repeat (with_reducible refine imp_i (fun _ => ?_)))) | (with_reducible refine freshQ_i (fun _ _ => ?_)) | (with_reducible refine nilQ_i (fun _ _ => ?_))))
    refine appK_new (by simp) (by simp) ?_ (by simp at hn ⊢; omega) (by simp at hn ⊢; omega) ?_
    · intro y hy
      rcases List.mem_cons.1 hy with rfl | hy
      · rfl
      · obtain ⟨z, _, rfl⟩ := List.mem_map.1 hy; rfl
    · intro b c rest hb hc hr
      (repeat' (first | (simp (config := { maxDischargeDepth := 16 }) only [*, ↓vD, vU, ↓vMd, vMu, VE.ev, VE.evs, retvs, tupOf, grab, vfill, vbsl, eqCells, eqCell, veqs, veqs1, vmnx, AV.isCell, AV.isUndef, Nat.reduceEqDiff, Nat.reduceAdd, Nat.reduceSub, Nat.reduceLeDiff, Nat.reduceLT, reduceIte, reduceCtorEq, Nat.reduceBEq, k_app, k_slc1]) | (with_reducible refine gs (fun _ => ?_) (fun _ => ?_)) | (with_reducible refine cs_ (fun _ => ?_) (fun _ => ?_)) | (with_reducible refine objQ_i (fun _ _ => ?_); (repeat (with_reducible refine imp_i (fun _ => ?_)))) | (with_reducible refine appK_a ?_) | (with_reducible refine freshQ_i (fun _ _ => ?_)) | (with_reducible refine nilQ_i (fun _ _ => ?_))))
      exact ⟨_, St.le.refl _, .inr ⟨b, c, rest, hb, rfl, by simp [ob, fl]⟩⟩
theorem put_v {Z : Im} (st0 st : St) (b4 b5 : Nat) (h4 : st.objs b4 = none) (h5 : st.objs b5 = none) (n45 : ¬ b5 = b4) (acc : List Seg) (tk : Tok) (l : Vec) (t m c : Int) (hn : acc.length ≤ 1000000000) (ht : Ours 3 st0 st tk) :
    VCalls Tryd.prog Z 89 [.agg [.int .i64 t, .int .i64 m, .int .i64 c], .ptr b5 0, .ptr b4 0] ((st.ins b4 (.cells [.sl (acc.map Seg.a) tk])).ins b5 (.cells [.int .i64 l.m, .int .i64 l.c]))
      (fun r s => r = .tup [] ∧ ∃ tk' st', Ours 3 st0 st' tk' ∧ s = (st'.ins b4 (.cells [.sl ((putF acc l ⟨t, ⟨m, c⟩⟩).1.map Seg.a) tk'])).ins b5 (.cells [.int .i64 (putF acc l ⟨t, ⟨m, c⟩⟩).2.m, .int .i64 (putF acc l ⟨t, ⟨m, c⟩⟩).2.c])) := by
  have n54 : ¬ b4 = b5 := fun e => n45 e.symm
  have hts := ht.has
  obtain ⟨lm, lc⟩ := l
  refine VCalls.of v_rle_folded_1_ok (Nat.le_of_ble_eq_true rfl) ?_
  simp only [v_rle_folded_1, ↓vD, vU, ↓vMd, vMu, VE.ev, VE.evs, retvs, tupOf, grab, vfill, vbsl, eqCells, eqCell, veqs, veqs1, vmnx, AV.isCell, AV.isUndef, Nat.reduceEqDiff, Nat.reduceAdd, Nat.reduceSub, Nat.reduceLeDiff, Nat.reduceLT, reduceIte, reduceCtorEq, Nat.reduceBEq, k_app, k_slc1]
  (repeat' (first | (simp (config := { maxDischargeDepth := 16 }) only [*, ↓vD, vU, ↓vMd, vMu, VE.ev, VE.evs, retvs, tupOf, grab, vfill, vbsl, eqCells, eqCell, veqs, veqs1, vmnx, AV.isCell, AV.isUndef, Nat.reduceEqDiff, Nat.reduceAdd, Nat.reduceSub, Nat.reduceLeDiff, Nat.reduceLT, reduceIte, reduceCtorEq, Nat.reduceBEq, k_app, k_slc1]) | (with_reducible refine gs (fun _ => ?_) (fun _ => ?_)) | (with_reducible refine cs_ (fun _ => ?_) (fun _ => ?_)) | (with_reducible refine objQ_i (fun _ _ => ?_); (repeat (with_reducible refine imp_i (fun _ => ?_)))) | (with_reducible refine appK_a ?_) | (with_reducible refine freshQ_i (fun _ _ => ?_)) | (with_reducible refine nilQ_i (fun _ _ => ?_))))
  · rename_i b6 h6 n1 n2 n3 n4 hc
    have hne : ¬ (⟨t, ⟨m, c⟩⟩ : Seg).v = ⟨lm, lc⟩ := fun e => by simp only [Vec.mk.injEq] at e; simp [e.1, e.2] at hc
    rw [putF_yes hne]
    refine ⟨by simp [Seg.a, cells_agg], by simp [okEl, AV.cells, AV.isCell], by omega, by omega, ?_⟩
    have hob : (st.kill tk).objs = st.objs := kill_objs ..
    intro t' hf
    have hn' := ht.next (t' := t') (by simpa only [St.fresh, St.ins] using hf)
    (repeat' (first | (simp (config := { maxDischargeDepth := 16 }) only [*, ↓vD, vU, ↓vMd, vMu, VE.ev, VE.evs, retvs, tupOf, grab, vfill, vbsl, eqCells, eqCell, veqs, veqs1, vmnx, AV.isCell, AV.isUndef, Nat.reduceEqDiff, Nat.reduceAdd, Nat.reduceSub, Nat.reduceLeDiff, Nat.reduceLT, reduceIte, reduceCtorEq, Nat.reduceBEq, k_app, k_slc1]) | (with_reducible refine gs (fun _ => ?_) (fun _ => ?_)) | (with_reducible refine cs_ (fun _ => ?_) (fun _ => ?_)) | (with_reducible refine objQ_i (fun _ _ => ?_); (repeat (with_reducible refine imp_i (fun _ => ?_)))) | (with_reducible refine appK_a ?_) | (with_reducible refine freshQ_i (fun _ _ => ?_)) | (with_reducible refine nilQ_i (fun _ _ => ?_))))
    refine ⟨_, ?_, t', _, hn', rfl⟩
    simp only [List.map_append, List.map_cons, List.map_nil, Seg.a]
    (refine ⟨fun i o e => ?_, fun _ h => h⟩; revert e; simp only [St.ins, St.del, add_objs, kill_objs]; (repeat' split); all_goals (first | exact id | (intros; contradiction) | (intros; subst_vars; contradiction) | (intros; simp_all; done) | (intros; subst_vars; simp_all; done)))
  · rename_i b6 h6 n1 n2 n3 n4 hc
    have hne : (⟨t, ⟨m, c⟩⟩ : Seg).v = ⟨lm, lc⟩ := by simpa using hc
    rw [putF_no hne]
    refine ⟨_, ?_, tk, _, ht, rfl⟩
    (refine ⟨fun i o e => ?_, fun _ h => h⟩; revert e; simp only [St.ins, St.del, add_objs, kill_objs]; (repeat' split); all_goals (first | exact id | (intros; contradiction) | (intros; subst_vars; contradiction) | (intros; simp_all; done) | (intros; subst_vars; simp_all; done)))
end Go.Proofs.YtglekfgoadehbaaDoor.V
end
section
set_option linter.unusedSimpArgs false
set_option linter.unusedVariables false
/- rle.folded, Of, Box. -/
namespace Go.Proofs.YtglekfgoadehbaaDoor.V
open Go Go.Proofs Go.Proofs.YtglekfgoadehbaaDoor.SP
set_option maxRecDepth 100000
set_option maxHeartbeats 4000000
theorem le_ins_mono {s t : St} (h : s.le t) (b : Nat) (o : AObj) : (s.ins b o).le (t.ins b o) :=
  ⟨fun i x e => by simp only [St.ins] at e ⊢; split at e <;> rename_i hi <;> simp only [hi, if_true, if_false] at e ⊢; exact e; exact h.objs i x e, h.live⟩
theorem far_load {zs : List Seg} {rest : List AV} {b : Nat} {S : St} (h : S.objs b = some (.cells (fl Seg.a zs ++ rest))) {k : Nat} (hk : k < zs.length) : vload S (.ptr b (k * 3)) 3 true = some (.agg [.int .i64 zs[k].t, .int .i64 zs[k].v.m, .int .i64 zs[k].v.c]) ∧ vload S (.ptr b (k * 3 + 0)) 1 false = some (.int .i64 zs[k].t) := by
  obtain ⟨_, h2, _⟩ := fl_at Seg.a 3 Seg.ok zs rest k hk
  have hl := fl_len Seg.a 3 Seg.ok zs
  have hg : zs.getD k default = zs[k] := by simp [List.getD_eq_getElem?_getD, List.getElem?_eq_getElem hk]
  rw [hg] at h2
  have hle : k * 3 + 3 ≤ (fl Seg.a zs ++ rest).length := by rw [List.length_append, hl]; omega
  refine ⟨?_, ?_⟩
  · simp only [vload, h, grab]
    rw [if_pos hle, h2]; rfl
  · simp only [vload, h, grab]
    rw [if_pos (by omega), if_neg (by simp)]
    have h3 := congrArg (·[0]?) h2
    simpa [Seg.a, cells_agg] using h3
theorem folded_v (xs : List Seg) (hn : xs.length ≤ 100000000) (t : Tok) : VPure Tryd.prog 75 [.sl (xs.map Seg.a) t] (.sl ((foldF xs).map Seg.a) .no) := by
  refine VPure.tok (fun Z st => ?_)
  refine VCalls.of v_rle_folded_ok (Nat.le_of_ble_eq_true rfl) ?_
  simp only [v_rle_folded, ↓vD, vU, ↓vMd, vMu, vZ, seval, k_app, k_slc1]
  (repeat' (first | (simp (maxDischargeDepth := 16) only [*, vX, ↓vD, vU, ↓vMd, vMu, vZ, seval]) | (simp (disch := first | assumption | omega | rfl | exact fun _ => rfl) only [vP]) | ((with_reducible first | apply gsnd | apply csnd | apply gsd | apply csd | apply gsn | apply csn | apply gs | apply cs_) <;> intro _) | (with_reducible refine objQ_i (fun _ _ => ?_); repeat with_reducible refine imp_i (fun _ => ?_))))
  refine callH_then (Clone_v xs (by omega) t st) ?_
  rintro v s (⟨rfl, t', rfl, rfl⟩ | ⟨b, c, rest, hne, hb, rfl, rfl⟩)
  · (repeat' (first | (simp (maxDischargeDepth := 16) only [*, vX, ↓vD, vU, ↓vMd, vMu, vZ, seval]) | (simp (disch := first | assumption | omega | rfl | exact fun _ => rfl) only [vP]) | ((with_reducible first | apply gsnd | apply csnd | apply gsd | apply csd | apply gsn | apply csn | apply gs | apply cs_) <;> intro _) | (with_reducible refine objQ_i (fun _ _ => ?_); repeat with_reducible refine imp_i (fun _ => ?_)) | (with_reducible first | refine callH_use (SoSeg.sortStable_nil _ _) ?_ | refine pureQ_use (SoSeg.sortStable_nil _ _) ?_)))
    rename_i b4 h4 b5 h5 n1 n2
    refine loop_out ?_
    (repeat' (first | (simp (maxDischargeDepth := 16) only [*, vX, ↓vD, vU, ↓vMd, vMu, vZ, seval]) | (simp (disch := first | assumption | omega | rfl | exact fun _ => rfl) only [vP]) | ((with_reducible first | apply gsnd | apply csnd | apply gsd | apply csd | apply gsn | apply csn | apply gs | apply cs_) <;> intro _) | (with_reducible refine objQ_i (fun _ _ => ?_); repeat with_reducible refine imp_i (fun _ => ?_))))
    exact ⟨s, by (refine ⟨fun i o e => ?_, fun _ h => h⟩; revert e; simp only [St.ins, St.del, add_objs, kill_objs]; (repeat' split); all_goals (first | exact id | (intros; contradiction) | (intros; subst_vars; contradiction) | (intros; simp_all; done) | (intros; subst_vars; simp_all; done))), .full, rfl, rfl⟩
  · have hsort := SoSeg.sortStable (Z := Z) Seg.a Seg.ok Seg.ag (gf := 86) (fs := [.osl b xs.length c]) (cs := []) cmpS swoS (fun x y => compare_v _ _ _ _ _ _ _) st b xs.length c rest xs rfl (by omega)
    have HS := Hid.mk hsort
    clear hsort
    (repeat' (first | (simp (maxDischargeDepth := 16) only [*, vX, ↓vD, vU, ↓vMd, vMu, vZ, seval]) | (simp (disch := first | assumption | omega | rfl | exact fun _ => rfl) only [vP]) | ((with_reducible first | apply gsnd | apply csnd | apply gsd | apply csd | apply gsn | apply csn | apply gs | apply cs_) <;> intro _) | (with_reducible refine objQ_i (fun _ _ => ?_); repeat with_reducible refine imp_i (fun _ => ?_))))
    refine callH_then HS.out ?_
    rintro _ _ ⟨rfl, rfl⟩
    clear HS
    have hzl : (sortS (ltB cmpS) xs).length = xs.length := (sortS_stb swoS xs).1.symm
    obtain ⟨zs, hzs⟩ : ∃ zs, sortS (ltB cmpS) xs = zs := ⟨_, rfl⟩
    have hfold : foldF xs = foldB zs [] v0 := by unfold foldF; rw [hzs]
    rw [hzs] at hzl ⊢
    obtain ⟨S0, hS0⟩ : ∃ S0, ob st b Seg.a rest zs = S0 := ⟨_, rfl⟩
    have hSb : S0.objs b = some (.cells (fl Seg.a zs ++ rest)) := by rw [← hS0]; exact ob_objs ..
    have hSle : st.le S0 := by rw [← hS0]; unfold ob; (refine ⟨fun i o e => ?_, fun _ h => h⟩; revert e; simp only [St.ins, St.del, add_objs, kill_objs]; (repeat' split); all_goals (first | exact id | (intros; contradiction) | (intros; subst_vars; contradiction) | (intros; simp_all; done) | (intros; subst_vars; simp_all; done)))
    rw [hS0]
    obtain ⟨n, hnn⟩ : ∃ n, xs.length = n := ⟨_, rfl⟩
    rw [hnn] at hzl hn ⊢
    have HF := Hid.mk hfold
    have HB := Hid.mk hSb
    have hlen : ∀ (b n c : Nat), vlen (.osl b n c) = some (.int .i64 n) := fun _ _ _ => rfl
    clear hS0 hfold hSb hzs hnn hne
    (repeat' (first | (simp (maxDischargeDepth := 16) only [*, vX, ↓vD, vU, ↓vMd, vMu, vZ, seval]) | (simp (disch := first | assumption | omega | rfl | exact fun _ => rfl) only [vP]) | ((with_reducible first | apply gsnd | apply csnd | apply gsd | apply csd | apply gsn | apply csn | apply gs | apply cs_) <;> intro _) | (with_reducible refine objQ_i (fun _ _ => ?_); repeat with_reducible refine imp_i (fun _ => ?_))))
    rename_i b4 h4 b5 h5 n54 n45
    refine loopf_of (len := n) (by simp only [asgL, dsts, List.cons_append, List.nil_append, List.append_nil]; rfl) (by simp only [noR, Bool.and_true, Bool.and_false]; rfl) (by omega) (fun k fr s => ∃ acc l tk S', s = (S'.ins b4 (.cells [.sl (acc.map Seg.a) tk])).ins b5 (.cells [.int .i64 l.m, .int .i64 l.c]) ∧ Ours 3 S0 S' tk ∧ fr.t 18 = .int .i64 k ∧ acc.length ≤ k ∧ Hid (foldB (zs.drop k) acc l = foldF xs)) ?_ ?_ ?_
    · exact ⟨[], v0, .full, S0, rfl, Ours.full 3 S0, by simp [↓vD, vU, ↓vMd, vMu, vZ, seval, k_app, k_slc1], by simp, ⟨by rw [HF.out]; rfl⟩⟩
    · rintro k fr s hk hw hf hd ⟨acc, l, tk, S', rfl, ho, h18, hal, HK⟩
      have h4' : S'.objs b4 = none := by rw [ho.objs]; exact h4
      have h5' : S'.objs b5 = none := by rw [ho.objs]; exact h5
      have hb' : S'.objs b = some (.cells (fl Seg.a zs ++ rest)) := by rw [ho.objs]; exact HB.out
      have nb4 : ¬ b = b4 := fun e => by rw [e, h4'] at hb'; cases hb'
      have nb5 : ¬ b = b5 := fun e => by rw [e, h5'] at hb'; cases hb'
      have hkz : k < zs.length := by omega
      have hia : viad 3 (.osl b n c) (.int .i64 (k : Int)) = some (.ptr b (k * 3)) := ob_iad b n c .i64 k 3 hk
      have hld : ∀ o4 o5, vload ((S'.ins b4 o4).ins b5 o5) (.ptr b (k * 3)) 3 true = some (.agg [.int .i64 zs[k].t, .int .i64 zs[k].v.m, .int .i64 zs[k].v.c]) := fun o4 o5 => (far_load (rest := rest) (by simp [St.ins, nb4, nb5, hb']) hkz).1
      obtain ⟨x, hx⟩ : ∃ x, zs[k] = x := ⟨_, rfl⟩
      simp only [hx] at hld
      have HX := Hid.mk hx
      have HO := Hid.mk hb'
      clear hx hb'
      by_cases hlast : k + 1 = n
      · have e1 : ((k : Int) + 1 == n) = true := by simp; omega
        have HG : Hid (foldB (zs.drop k) acc l = foldB (zs.drop (k + 1)) (putF acc l x).1 (putF acc l x).2) := ⟨by rw [foldB_go zs acc l k hkz (.inl (by omega)), HX.out]⟩
        have HL := Hid.mk hlast
        clear hlast
        (repeat' (first | (simp (maxDischargeDepth := 16) only [*, vX, ↓vD, vU, ↓vMd, vMu, vZ, seval]) | (simp (disch := first | assumption | omega | rfl | exact fun _ => rfl) only [vP]) | ((with_reducible first | apply gsnd | apply csnd | apply gsd | apply csd | apply gsn | apply csn | apply gs | apply cs_) <;> intro _) | (with_reducible refine objQ_i (fun _ _ => ?_); repeat with_reducible refine imp_i (fun _ => ?_))))
        rename_i b8 h8 n84 n48 n85 n58
        refine callH_eq (put_v (Z := Z) ((S'.ins b8 (.cells [.int .i64 x.t, .int .i64 x.v.m, .int .i64 x.v.c])).kill tk) (S'.ins b8 (.cells [.int .i64 x.t, .int .i64 x.v.m, .int .i64 x.v.c])) b4 b5 (by simp [St.ins, h4', n48]) (by simp [St.ins, h5', n58]) n54 acc tk l x.t x.v.m x.v.c (by omega) (Ours.self (by rw [ins_has]; exact ho.has))) (by simp only [St.ins]; congr 1; funext i; (repeat' split) <;> (first | rfl | contradiction | (subst_vars; contradiction) | (subst_vars; rfl))) ?_
        rintro _ _ ⟨rfl, tk', st', ho', rfl⟩
        obtain ⟨ho2, hle2⟩ := ho.drop h8 ho'
        (repeat' (first | (simp (maxDischargeDepth := 16) only [*, vX, ↓vD, vU, ↓vMd, vMu, vZ, seval]) | (simp (disch := first | assumption | omega | rfl | exact fun _ => rfl) only [vP]) | ((with_reducible first | apply gsnd | apply csnd | apply gsd | apply csd | apply gsn | apply csn | apply gs | apply cs_) <;> intro _) | (with_reducible refine objQ_i (fun _ _ => ?_); repeat with_reducible refine imp_i (fun _ => ?_))))
        exact ⟨_, le_ins_mono (le_ins_mono hle2 _ _) _ _, (putF acc l x).1, (putF acc l x).2, tk', _, rfl, ho2, Nat.le_trans (putF_len acc l x) (by omega), ⟨HG.out.symm.trans HK.out⟩⟩
      · have hk1 : k + 1 < n := by omega
        have hk1z : k + 1 < zs.length := by omega
        have e1 : ((k : Int) + 1 == n) = false := by simp; omega
        have hia2 : viad 3 (.osl b n c) (.int .i64 ((k : Int) + 1)) = some (.ptr b ((k + 1) * 3)) := ob_iad b n c .i64 (k + 1) 3 hk1
        have hld2 : ∀ o4 o5 b8 o8, S'.objs b8 = none → vload (((S'.ins b4 o4).ins b5 o5).ins b8 o8) (.ptr b ((k + 1) * 3)) 1 false = some (.int .i64 zs[k + 1].t) := fun o4 o5 b8 o8 h8 => (far_load (rest := rest) (by
          have nb8 : ¬ b = b8 := fun e => by have := HO.out; rw [e, h8] at this; cases this
          simp [St.ins, nb4, nb5, nb8, HO.out]) hk1z).2
        obtain ⟨u, hu⟩ : ∃ u, zs[k + 1].t = u := ⟨_, rfl⟩
        simp only [hu] at hld2
        by_cases hne : u = x.t
        · have HG : Hid (foldB (zs.drop k) acc l = foldB (zs.drop (k + 1)) acc l) := ⟨foldB_stay zs acc l k hk1z (by rw [hu, HX.out, hne])⟩
          clear hlast hu
          (repeat' (first | (simp (maxDischargeDepth := 16) only [*, vX, ↓vD, vU, ↓vMd, vMu, vZ, seval]) | (simp (disch := first | assumption | omega | rfl | exact fun _ => rfl) only [vP]) | ((with_reducible first | apply gsnd | apply csnd | apply gsd | apply csd | apply gsn | apply csn | apply gs | apply cs_) <;> intro _) | (with_reducible refine objQ_i (fun _ _ => ?_); repeat with_reducible refine imp_i (fun _ => ?_))))
          rename_i b8 h8 n84 n48 n85 n58
          exact ⟨(S'.ins b4 (.cells [.sl (acc.map Seg.a) tk])).ins b5 (.cells [.int .i64 l.m, .int .i64 l.c]), by (refine ⟨fun i o e => ?_, fun _ h => h⟩; revert e; simp only [St.ins, St.del, add_objs, kill_objs]; (repeat' split); all_goals (first | exact id | (intros; contradiction) | (intros; subst_vars; contradiction) | (intros; simp_all; done) | (intros; subst_vars; simp_all; done))), acc, l, tk, S', rfl, ho, by omega, ⟨HG.out.symm.trans HK.out⟩⟩
        · have HG : Hid (foldB (zs.drop k) acc l = foldB (zs.drop (k + 1)) (putF acc l x).1 (putF acc l x).2) := ⟨by rw [foldB_go zs acc l k hkz (.inr ⟨hk1z, by rw [hu, HX.out]; exact hne⟩), HX.out]⟩
          clear hlast hu
          (repeat' (first | (simp (maxDischargeDepth := 16) only [*, vX, ↓vD, vU, ↓vMd, vMu, vZ, seval]) | (simp (disch := first | assumption | omega | rfl | exact fun _ => rfl) only [vP]) | ((with_reducible first | apply gsnd | apply csnd | apply gsd | apply csd | apply gsn | apply csn | apply gs | apply cs_) <;> intro _) | (with_reducible refine objQ_i (fun _ _ => ?_); repeat with_reducible refine imp_i (fun _ => ?_))))
          rename_i b8 h8 n84 n48 n85 n58
          refine callH_eq (put_v (Z := Z) ((S'.ins b8 (.cells [.int .i64 x.t, .int .i64 x.v.m, .int .i64 x.v.c])).kill tk) (S'.ins b8 (.cells [.int .i64 x.t, .int .i64 x.v.m, .int .i64 x.v.c])) b4 b5 (by simp [St.ins, h4', n48]) (by simp [St.ins, h5', n58]) n54 acc tk l x.t x.v.m x.v.c (by omega) (Ours.self (by rw [ins_has]; exact ho.has))) (by simp only [St.ins]; congr 1; funext i; (repeat' split) <;> (first | rfl | contradiction | (subst_vars; contradiction) | (subst_vars; rfl))) ?_
          rintro _ _ ⟨rfl, tk', st', ho', rfl⟩
          obtain ⟨ho2, hle2⟩ := ho.drop h8 ho'
          (repeat' (first | (simp (maxDischargeDepth := 16) only [*, vX, ↓vD, vU, ↓vMd, vMu, vZ, seval]) | (simp (disch := first | assumption | omega | rfl | exact fun _ => rfl) only [vP]) | ((with_reducible first | apply gsnd | apply csnd | apply gsd | apply csd | apply gsn | apply csn | apply gs | apply cs_) <;> intro _) | (with_reducible refine objQ_i (fun _ _ => ?_); repeat with_reducible refine imp_i (fun _ => ?_))))
          exact ⟨_, le_ins_mono (le_ins_mono hle2 _ _) _ _, (putF acc l x).1, (putF acc l x).2, tk', _, rfl, ho2, Nat.le_trans (putF_len acc l x) (by omega), ⟨HG.out.symm.trans HK.out⟩⟩
    · rintro fr s hf hd ⟨acc, l, tk, S', rfl, ho, h18, hal, HK⟩
      have h4' : S'.objs b4 = none := by rw [ho.objs]; exact h4
      have h5' : S'.objs b5 = none := by rw [ho.objs]; exact h5
      have hle : st.le ((S'.ins b4 (.cells [.sl (acc.map Seg.a) tk])).ins b5 (.cells [.int .i64 l.m, .int .i64 l.c])) := (hSle.trans ho.under).trans (by (refine ⟨fun i o e => ?_, fun _ h => h⟩; revert e; simp only [St.ins, St.del, add_objs, kill_objs]; (repeat' split); all_goals (first | exact id | (intros; contradiction) | (intros; subst_vars; contradiction) | (intros; simp_all; done) | (intros; subst_vars; simp_all; done))))
      have hfin : acc = foldF xs := by rw [← HK.out, List.drop_of_length_le (by omega)]; rfl
      have HN := Hid.mk hfin
      clear hfin
      (repeat' (first | (simp (maxDischargeDepth := 16) only [*, vX, ↓vD, vU, ↓vMd, vMu, vZ, seval]) | (simp (disch := first | assumption | omega | rfl | exact fun _ => rfl) only [vP]) | ((with_reducible first | apply gsnd | apply csnd | apply gsd | apply csd | apply gsn | apply csn | apply gs | apply cs_) <;> intro _) | (with_reducible refine objQ_i (fun _ _ => ?_); repeat with_reducible refine imp_i (fun _ => ?_))))
      exact ⟨st, hle, tk, by rw [HN.out], rfl⟩
def ofF (xs : List Seg) : List Seg × Int := if xs.all inSeg then (foldF xs, 0) else ([], 10)
theorem Of_v (xs : List Seg) (hn : xs.length ≤ 100000000) (t : Tok) : VPure Tryd.prog 47 [.sl (xs.map Seg.a) t] (.tup [.sl ((ofF xs).1.map Seg.a) .no, num (ofF xs).2]) := by
  refine VPure.tokT (fun Z st => ?_)
  have hany := contains_pSeg (f := 74) (fs := []) (cs := []) xs (by omega) t (fun x => !inSeg x) (fun x => Of1_v x.t x.v.m x.v.c)
  have hf := folded_v xs hn t
  refine VCalls.of v_rle_Of_ok (Nat.le_of_ble_eq_true rfl) ?_
  simp only [v_rle_Of, ↓vD, vU, ↓vMd, vMu, vZ, seval, k_app, k_slc1]
  (repeat' (first | (simp (maxDischargeDepth := 16) only [*, vX, ↓vD, vU, ↓vMd, vMu, vZ, seval]) | (simp (disch := first | assumption | omega | rfl | exact fun _ => rfl) only [vP]) | ((with_reducible first | apply gsnd | apply csnd | apply gsd | apply csd | apply gsn | apply csn | apply gs | apply cs_) <;> intro _) | (with_reducible first | refine callH_use (hany) ?_ | refine pureQ_use (hany) ?_) | (with_reducible first | refine callH_use (hf) ?_ | refine pureQ_use (hf) ?_)))
  · rename_i h
    have ha : xs.all inSeg = true := by
      rw [List.all_eq_true]; intro x hx
      have := List.any_eq_false.1 h x hx
      simpa using this
    exact ⟨st, St.le.refl _, .no, by unfold ofF; rw [if_pos ha]; rfl, rfl⟩
  · rename_i h
    have ha : ¬ xs.all inSeg = true := by
      rw [List.all_eq_true]; intro h2
      obtain ⟨x, hx, h3⟩ := List.any_eq_true.1 h
      rw [h2 x hx] at h3; cases h3
    exact ⟨st, St.le.refl _, .full, by unfold ofF; rw [if_neg ha]; rfl, rfl⟩
def boxF1 (a b : Int) (v : Vec) : List Seg × Int := if a > b then ([], 2) else ofF [⟨a, v⟩, ⟨b, v0⟩]
theorem Box_v (a b m c : Int) : VPure Tryd.prog 29 [.int .i64 a, .int .i64 b, .agg [.int .i64 m, .int .i64 c]] (.tup [.sl ((boxF1 a b ⟨m, c⟩).1.map Seg.a) .no, num (boxF1 a b ⟨m, c⟩).2]) := by
  refine VPure.tokT (fun Z st => ?_)
  have hof := Of_v [⟨a, ⟨m, c⟩⟩, ⟨b, v0⟩] (by simp) .full
  simp only [List.map_cons, List.map_nil, Seg.a, v0] at hof
  refine VCalls.of v_rle_Box_ok (Nat.le_of_ble_eq_true rfl) ?_
  simp only [v_rle_Box, ↓vD, vU, ↓vMd, vMu, vZ, seval, k_app, k_slc1]
  (repeat' (first | (simp (maxDischargeDepth := 16) only [*, vX, ↓vD, vU, ↓vMd, vMu, vZ, seval]) | (simp (disch := first | assumption | omega | rfl | exact fun _ => rfl) only [vP]) | ((with_reducible first | apply gsnd | apply csnd | apply gsd | apply csd | apply gsn | apply csn | apply gs | apply cs_) <;> intro _) | (with_reducible refine objQ_i (fun _ _ => ?_); repeat with_reducible refine imp_i (fun _ => ?_)) | (with_reducible first | refine callH_use (hof) ?_ | refine pureQ_use (hof) ?_)))
  · rename_i h
    exact ⟨st, by (refine ⟨fun i o e => ?_, fun _ h => h⟩; revert e; simp only [St.ins, St.del, add_objs, kill_objs]; (repeat' split); all_goals (first | exact id | (intros; contradiction) | (intros; subst_vars; contradiction) | (intros; simp_all; done) | (intros; subst_vars; simp_all; done))), .full, by unfold boxF1; rw [if_pos h]; rfl, rfl⟩
  · rename_i h
    exact ⟨st, by (refine ⟨fun i o e => ?_, fun _ h => h⟩; revert e; simp only [St.ins, St.del, add_objs, kill_objs]; (repeat' split); all_goals (first | exact id | (intros; contradiction) | (intros; subst_vars; contradiction) | (intros; simp_all; done) | (intros; subst_vars; simp_all; done))), .no, by unfold boxF1; rw [if_neg h]; rfl, rfl⟩
end Go.Proofs.YtglekfgoadehbaaDoor.V
end
section
set_option linter.unusedSimpArgs false
set_option linter.unusedVariables false
/- (calc.joint).made. -/
namespace Go.Proofs.YtglekfgoadehbaaDoor.V
open Go Go.Proofs
set_option maxRecDepth 100000
set_option maxHeartbeats 4000000
theorem both_c (f g : List Seg) (t t' : Tok) (st : St) {Z : Im} : VCalls Tryd.prog Z 53 [.sl (f.map Seg.a) t, .sl (g.map Seg.a) t'] st
    (fun v s => ∃ b2 b3, st.objs b2 = none ∧ st.objs b3 = none ∧ ¬ b2 = b3 ∧ v = .clo 79 [] [.ptr b2 0, .ptr b3 0] ∧ s = (st.ins b2 (.cells [.sl (f.map Seg.a) t])).ins b3 (.cells [.sl (g.map Seg.a) t'])) := by
  refine VCalls.of v_calc_both_ok (Nat.le_of_ble_eq_true rfl) ?_
  simp only [v_calc_both, ↓vD, vU, ↓vMd, vMu, vZ, seval, k_app, k_slc1]
  (repeat' (first | (simp (maxDischargeDepth := 16) only [*, vX, ↓vD, vU, ↓vMd, vMu, vZ, seval]) | (simp (disch := first | assumption | omega | rfl | exact fun _ => rfl) only [vP]) | ((with_reducible first | apply gsnd | apply csnd | apply gsd | apply csd | apply gsn | apply csn | apply gs | apply cs_) <;> intro _) | (with_reducible refine objQ_i (fun _ _ => ?_); repeat with_reducible refine imp_i (fun _ => ?_))))
  rename_i b2 h2 b3 h3 n1 n2
  exact ⟨_, St.le.refl _, b2, b3, h2, h3, n2, rfl, rfl⟩
def rawJ (jf : Vec → Vec → Vec × Int) : List (Int × Vec × Vec) → List Seg → List Seg × Int
  | [], acc => (acc, 0)
  | it :: r, acc => if (jf it.2.1 it.2.2).2 = 0 then rawJ jf r (acc ++ [⟨it.1, (jf it.2.1 it.2.2).1⟩]) else ([], (jf it.2.1 it.2.2).2)
def madeF (jf : Vec → Vec → Vec × Int) (f g : List Seg) : List Seg × Int := if mayF f && mayF g then (if (rawJ jf (bothF f g v0 v0) []).2 = 0 then ofF (rawJ jf (bothF f g v0 v0) []).1 else ([], (rawJ jf (bothF f g v0 v0) []).2)) else ([], 5)
theorem rawJ_drop (jf : Vec → Vec → Vec × Int) (L : List (Int × Vec × Vec)) (k : Nat) (hk : k < L.length) (acc : List Seg) : rawJ jf (L.drop k) acc = if (jf L[k].2.1 L[k].2.2).2 = 0 then rawJ jf (L.drop (k + 1)) (acc ++ [⟨L[k].1, (jf L[k].2.1 L[k].2.2).1⟩]) else ([], (jf L[k].2.1 L[k].2.2).2) := by
  rw [List.drop_eq_getElem_cons hk]; rfl
theorem bothF_len : ∀ (f g : List Seg) (a b : Vec), (bothF f g a b).length ≤ f.length + g.length
  | [], [], _, _ => by rw [bothF]; simp
  | x :: f, [], _, b => by rw [bothF]; have := bothF_len f [] x.v b; simp at *; omega
  | [], y :: g, a, _ => by rw [bothF]; have := bothF_len [] g a y.v; simp at *; omega
  | x :: f, y :: g, a, b => by
    rw [bothF]
    have h1 := bothF_len f (y :: g) x.v b
    have h2 := bothF_len (x :: f) g a y.v
    have h3 := bothF_len f g x.v y.v
    simp at h1 h2 h3 ⊢
    split
    · simp; omega
    · split <;> simp <;> omega
termination_by f g => f.length + g.length
def MS (b3 b6 b7 b8 D l : Nat) (jv o6 o7 o8 : AV) (ol : AObj) (W : St) : St := (((((W.ins b3 (.cells [jv])).ins b6 (.cells [o6])).ins b7 (.cells [o7])).ins b8 (.cells [o8])).ins D dobj).ins l ol
theorem MS_none {b3 b6 b7 b8 D l : Nat} {jv o6 o7 o8 p6 p7 p8 : AV} {ol pl : AObj} {W V : St} (hW : W.objs = V.objs) {i : Nat} (h : (MS b3 b6 b7 b8 D l jv o6 o7 o8 ol V).objs i = none) : (MS b3 b6 b7 b8 D l jv p6 p7 p8 pl W).objs i = none := by
  simp only [MS, ins_objs, ite_some_none] at h ⊢
  rw [hW]; exact h
theorem argsFr2_t (p q : Nat) (a b : AV) (fr : Fr) (i : Nat) : (argsFr [p, q] [a, b] fr).t i = if i = q then b else if i = p then a else fr.t i := rfl
theorem argsFr2_d (p q : Nat) (a b : AV) (fr : Fr) : (argsFr [p, q] [a, b] fr).d = [] := rfl
theorem made_c (jv : AV) (jf : Vec → Vec → Vec × Int) (hj : Joint jv jf) (f g : List Seg) (hf : f.length ≤ 1000000) (hg : g.length ≤ 1000000) (t t' : Tok) : VPure Tryd.prog 31 [.agg [jv], .sl (f.map Seg.a) t, .sl (g.map Seg.a) t'] (.tup [.sl ((madeF jf f g).1.map Seg.a) .no, num (madeF jf f g).2]) := by
  refine VPure.tokT (fun Z st => ?_)
  obtain ⟨jg, fs, cs, rfl, hjf⟩ := hj
  have hmay := may2_c f g hf hg .full t t'
  have hbl := bothF_len f g v0 v0
  obtain ⟨L, hL⟩ : ∃ L, bothF f g v0 v0 = L := ⟨_, rfl⟩
  have HM : Hid (madeF jf f g = if mayF f && mayF g then (if (rawJ jf L []).2 = 0 then ofF (rawJ jf L []).1 else ([], (rawJ jf L []).2)) else ([], 5)) := ⟨by unfold madeF; rw [hL]⟩
  have HJ := Hid.mk hjf
  have HL := Hid.mk (And.intro hL hbl)
  clear hL hbl hjf
  refine VCalls.of v_calc_joint_made_ok (Nat.le_of_ble_eq_true rfl) ?_
  simp only [v_calc_joint_made, ↓vD, vU, ↓vMd, vMu, vZ, seval, k_app, k_slc1]
  (repeat' (first | (simp (maxDischargeDepth := 16) only [*, vX, ↓vD, vU, ↓vMd, vMu, vZ, seval]) | (simp (disch := first | assumption | omega | rfl | exact fun _ => rfl) only [vP]) | ((with_reducible first | apply gsnd | apply csnd | apply gsd | apply csd | apply gsn | apply csn | apply gs | apply cs_) <;> intro _) | (with_reducible refine objQ_i (fun _ _ => ?_); repeat with_reducible refine imp_i (fun _ => ?_)) | ((try with_reducible refine appK_a ?_); first | (with_reducible refine appD_F (by refine ⟨?_, ?_, ?_, ?_⟩ <;> (first | assumption | omega | exact St.has_add (by assumption) | (simp only [ins_has]; exact St.has_add (by assumption)) | (simp only [ins_has, fresh_ins, kill_ins, add_ins] at *; exact St.has_add (by assumption)) | (simp only [*, ins_has, has_full, St.has_add]; done) | (simp [-List.map_take, -List.map_drop, or_imp, forall_and, Seg.a, Vec.a, Leg.a, num, okEl, cells_agg, cells_int, cells_sl, cells_bool, AV.isCell]; done) | (simp; omega))) (fun _ _ => ?_)) | (with_reducible refine appD_V (by refine ⟨?_, ?_, ?_, ?_, ?_⟩ <;> (first | assumption | omega | exact St.has_add (by assumption) | (simp only [ins_has]; exact St.has_add (by assumption)) | (simp only [ins_has, fresh_ins, kill_ins, add_ins] at *; exact St.has_add (by assumption)) | (simp only [*, ins_has, has_full, St.has_add]; done) | (simp [-List.map_take, -List.map_drop, or_imp, forall_and, Seg.a, Vec.a, Leg.a, num, okEl, cells_agg, cells_int, cells_sl, cells_bool, AV.isCell]; done) | (simp; omega))) (fun _ _ => ?_))) | (with_reducible refine freshQ_i (fun _ _ => ?_)) | (with_reducible first | refine callH_use (hmay) ?_ | refine pureQ_use (hmay) ?_)))
  · rename_i b3 h3 b6 h6 n1 n2 b7 h7 n3 n4 n5 n6 hm
    exact ⟨st, by (refine ⟨fun i o e => ?_, fun _ h => h⟩; revert e; simp only [St.ins, St.del, add_objs, kill_objs]; (repeat' split); all_goals (first | exact id | (intros; contradiction) | (intros; subst_vars; contradiction) | (intros; simp_all; done) | (intros; subst_vars; simp_all; done))), .full, by rw [HM.out, hm]; rfl, rfl⟩
  rename_i b3 h3 b6 h6 n63 n36 b7 h7 n73 n37 n76 n67 hm b8 h8 n83 n38 n86 n68 n87 n78
  have HN : Hid (madeF jf f g = if (rawJ jf L []).2 = 0 then ofF (rawJ jf L []).1 else ([], (rawJ jf L []).2)) := ⟨by rw [HM.out, if_pos hm]⟩
  clear HM hmay
  refine callH_then (both_c f g t t' _) ?_
  rintro _ _ ⟨bf, bg, hbf, hbg, nfg, rfl, rfl⟩
  have ngf : ¬ bg = bf := fun e => nfg e.symm
  simp only [ins_objs, ite_some_none] at hbf hbg
  simp only [↓vD, vU, ↓vMd, vMu, vZ, seval, k_app, k_slc1]
  refine rng_of (gf := 79) (fs := []) (cs := [.ptr bf 0, .ptr bg 0]) ?_ ?_
  · simp only [↓vD, vU, ↓vMd, vMu, vZ, seval, k_app, k_slc1]
  intro Y l D r hzy hl hD nlD hyY
  simp only [ins_objs, ite_some_none] at hl hD
  obtain ⟨ngb8, nb8g, ngb7, nb7g, ngb6, nb6g, ngb3, nb3g, hgn⟩ := hbg
  obtain ⟨nfb8, nb8f, nfb7, nb7f, nfb6, nb6f, nfb3, nb3f, hfn⟩ := hbf
  obtain ⟨nlg, ngl, nlf, nfl, nl8, n8l, nl7, n7l, nl6, n6l, nl3, n3l, hln⟩ := hl
  obtain ⟨nDg, ngD, nDf, nfD, nD8, n8D, nD7, n7D, nD6, n6D, nD3, n3D, hDn⟩ := hD
  have nDl : ¬ D = l := fun e => nlD e.symm
  have hmain := both_it (Y := Y) (l := l) f g t t' bf bg nfg (MS b3 b6 b7 b8 D l (.clo jg fs cs) (.sl [] .full) (.int .i64 0) (.sl [] .full) (lobj r .ready none) st)
    (by simp only [MS, ins_objs, ite_some_none, *, not_false_eq_true, and_self, if_false]) (by simp only [MS, ins_objs, ite_some_none, *, not_false_eq_true, and_self, if_false])
    (fun k S => ∃ acc tk W, S = MS b3 b6 b7 b8 D l (.clo jg fs cs) (.sl [] .full) (.int .i64 0) (.sl (acc.map Seg.a) tk) (lobj r .ready none) W ∧ Ours 3 st W tk ∧ acc.length ≤ k ∧ Hid (rawJ jf (L.drop k) acc = rawJ jf L []))
    (fun S => ∃ o8 tk W e, S = MS b3 b6 b7 b8 D l (.clo jg fs cs) (.sl [] .full) (.int .i64 e) o8 (lobj r .done (some .ret)) W ∧ Ours 3 st W tk ∧ Hid (rawJ jf L [] = ([], e) ∧ e ≠ 0))
    (by rintro k S ⟨acc, tk, W, rfl, ho, _⟩ i hi; exact MS_none ho.objs hi) (by rintro S ⟨o8, tk, W, e, rfl, ho, _⟩ i hi; exact MS_none ho.objs hi)
    ⟨[], .full, st, rfl, Ours.full 3 st, by simp, ⟨rfl⟩⟩ ?_
  rotate_left
  · rw [HL.out.1]
    rintro k hk S b4 o2 o3 o4 ⟨acc, tk, W, rfl, ho, hal, HK⟩ hSf hSg hS4 nf4 ng4
    have n4f : ¬ b4 = bf := fun e => nf4 e.symm
    have n4g : ¬ b4 = bg := fun e => ng4 e.symm
    simp only [MS, ins_objs, ite_some_none] at hS4
    obtain ⟨n4l, nl4, n4D, nD4, n48, n84, n47, n74, n46, n64, n43, n34, hW4⟩ := hS4
    have hWf : W.objs bf = none := by rw [ho.objs]; exact hfn
    have hWg : W.objs bg = none := by rw [ho.objs]; exact hgn
    have hstep := rawJ_drop jf L k hk acc
    obtain ⟨it, hit⟩ : ∃ it, L[k] = it := ⟨_, rfl⟩
    obtain ⟨tt, a, c⟩ := it
    rw [hit] at hstep ⊢
    have hj := HJ.out a c
    obtain ⟨q, hq⟩ : ∃ q, jf a c = q := ⟨_, rfl⟩
    simp only [hq] at hstep hj
    have HS := Hid.mk hstep
    have hts := ho.has
    have hal2 : acc.length ≤ 2000000 := by have := HL.out.2; rw [HL.out.1] at this; omega
    clear hstep hit hq
    refine hyY _ _ _ rfl (by simp only [XS, MS, ins_objs, *, if_true, if_false]) ?_
    rw [XS, MS]
    clear hyY
    (repeat' (first | (simp (maxDischargeDepth := 16) only [*, argsFr2_t, argsFr2_d, nowA, qr_normal, qr_ret, qr_exit, vX, ↓vD, vU, ↓vMd, vMu, vZ, seval]) | (simp (disch := first | assumption | omega | rfl | exact fun _ => rfl) only [argsFr2_t, argsFr2_d, nowA, qr_normal, qr_ret, qr_exit, vP]) | ((with_reducible first | apply gsnd | apply csnd | apply gsd | apply csd | apply gsn | apply csn | apply gs | apply cs_) <;> intro _) | (with_reducible refine objQ_i (fun _ _ => ?_); repeat with_reducible refine imp_i (fun _ => ?_)) | ((try with_reducible refine appK_a ?_); first | (with_reducible refine appD_F (by refine ⟨?_, ?_, ?_, ?_⟩ <;> (first | assumption | omega | exact St.has_add (by assumption) | (simp only [ins_has]; exact St.has_add (by assumption)) | (simp only [ins_has, fresh_ins, kill_ins, add_ins] at *; exact St.has_add (by assumption)) | (simp only [*, ins_has, has_full, St.has_add]; done) | (simp [-List.map_take, -List.map_drop, or_imp, forall_and, Seg.a, Vec.a, Leg.a, num, okEl, cells_agg, cells_int, cells_sl, cells_bool, AV.isCell]; done) | (simp; omega))) (fun _ _ => ?_)) | (with_reducible refine appD_V (by refine ⟨?_, ?_, ?_, ?_, ?_⟩ <;> (first | assumption | omega | exact St.has_add (by assumption) | (simp only [ins_has]; exact St.has_add (by assumption)) | (simp only [ins_has, fresh_ins, kill_ins, add_ins] at *; exact St.has_add (by assumption)) | (simp only [*, ins_has, has_full, St.has_add]; done) | (simp [-List.map_take, -List.map_drop, or_imp, forall_and, Seg.a, Vec.a, Leg.a, num, okEl, cells_agg, cells_int, cells_sl, cells_bool, AV.isCell]; done) | (simp; omega))) (fun _ _ => ?_))) | (with_reducible refine freshQ_i (fun _ _ => ?_)) | (with_reducible first | refine callH_use (hj) ?_ | refine pureQ_use (hj) ?_)))
    · have hc : (q.2 != 0) = true := by assumption
      have hc' : ¬ q.2 = 0 := by simpa using hc
      refine .inr ⟨rfl, MS b3 b6 b7 b8 D l (.clo jg fs cs) (.sl [] .full) (.int .i64 q.2) (.sl (acc.map Seg.a) tk) (lobj r .done (some .ret)) W, ⟨_, tk, W, q.2, rfl, ho, ⟨by rw [← HK.out, HS.out, if_neg hc'], hc'⟩⟩, ?_⟩
      rw [XS, MS]
      (refine leX.start ?_ rfl; (repeat (refine leX.in_ (by simp only [*, ins_objs, if_true, if_false]; first | done | rfl) ?_)); (repeat (first | refine leX.new (by first | assumption | (rw [hob]; assumption)) ?_ | refine leX.old (by (simp only [List.mem_cons, true_or, or_true, eq_self]; done)) ?_)); exact leX.refl _ _)
    · rename_i t1 hf1
      have hc : (q.2 != 0) = false := by assumption
      have hc' : q.2 = 0 := by simpa using hc
      have ho2 := ho.next (by simpa only [kill_ins, fresh_ins] using hf1)
      have hob : ((W.kill tk).add t1).objs = W.objs := by rw [add_objs, kill_objs]
      refine .inl ⟨rfl, MS b3 b6 b7 b8 D l (.clo jg fs cs) (.sl [] .full) (.int .i64 0) (.sl ((acc ++ [(⟨tt, q.1⟩ : Seg)]).map Seg.a) t1) (lobj r .ready none) ((W.kill tk).add t1), ⟨_, t1, _, rfl, ho2, by simp; omega, ⟨by rw [← HK.out, HS.out, if_pos hc']⟩⟩, ?_⟩
      rw [XS, MS]
      simp only [List.map_append, List.map_cons, List.map_nil, Seg.a]
      clear ho2 hf1
      (refine leX.start ?_ rfl; (repeat (refine leX.in_ (by simp only [*, ins_objs, if_true, if_false]; first | done | rfl) ?_)); (repeat (first | refine leX.new (by first | assumption | (rw [hob]; assumption)) ?_ | refine leX.old (by (simp only [List.mem_cons, true_or, or_true, eq_self]; done)) ?_)); exact leX.refl _ _)
  · refine VCalls.st_eq (VCalls.wk hmain ?_) (by rw [MS]; exact (by simp only [St.ins]; congr 1; funext i; (repeat' split) <;> (first | rfl | contradiction | (subst_vars; contradiction) | (subst_vars; rfl))))
    rintro v s ⟨rfl, S', hIE, hle⟩
    refine ⟨_, S', Wk.le hle _, ?_⟩
    clear hmain hle
    rcases hIE with ⟨acc, tk, W, rfl, ho, hal, HK⟩ | ⟨o8, tk, W, e, rfl, ho, HE⟩
    · refine ⟨.ready, none, by simp, by simp [MS, St.ins], ?_⟩
      rw [jq_none, MS]
      rw [HL.out.1, List.drop_length] at HK
      have hal2 : acc.length ≤ 2000000 := by have := HL.out.2; omega
      have hof := Of_v acc (by omega) tk
      have hob := ho.objs
      have hun := ho.under
      clear hyY
      (repeat' (first | (simp (maxDischargeDepth := 16) only [*, num, vX, ↓vD, vU, ↓vMd, vMu, vZ, seval]) | (simp (disch := first | assumption | omega | rfl | exact fun _ => rfl) only [num, vP]) | ((with_reducible first | apply gsnd | apply csnd | apply gsd | apply csd | apply gsn | apply csn | apply gs | apply cs_) <;> intro _) | (with_reducible refine objQ_i (fun _ _ => ?_); repeat with_reducible refine imp_i (fun _ => ?_)) | ((try with_reducible refine appK_a ?_); first | (with_reducible refine appD_F (by refine ⟨?_, ?_, ?_, ?_⟩ <;> (first | assumption | omega | exact St.has_add (by assumption) | (simp only [ins_has]; exact St.has_add (by assumption)) | (simp only [ins_has, fresh_ins, kill_ins, add_ins] at *; exact St.has_add (by assumption)) | (simp only [*, ins_has, has_full, St.has_add]; done) | (simp [-List.map_take, -List.map_drop, or_imp, forall_and, Seg.a, Vec.a, Leg.a, num, okEl, cells_agg, cells_int, cells_sl, cells_bool, AV.isCell]; done) | (simp; omega))) (fun _ _ => ?_)) | (with_reducible refine appD_V (by refine ⟨?_, ?_, ?_, ?_, ?_⟩ <;> (first | assumption | omega | exact St.has_add (by assumption) | (simp only [ins_has]; exact St.has_add (by assumption)) | (simp only [ins_has, fresh_ins, kill_ins, add_ins] at *; exact St.has_add (by assumption)) | (simp only [*, ins_has, has_full, St.has_add]; done) | (simp [-List.map_take, -List.map_drop, or_imp, forall_and, Seg.a, Vec.a, Leg.a, num, okEl, cells_agg, cells_int, cells_sl, cells_bool, AV.isCell]; done) | (simp; omega))) (fun _ _ => ?_))) | (with_reducible refine freshQ_i (fun _ _ => ?_)) | (with_reducible first | refine callH_use (hof) ?_ | refine pureQ_use (hof) ?_)))
      have hr : rawJ jf L [] = (acc, 0) := HK.out.symm
      have hm : madeF jf f g = ofF acc := by rw [HN.out, hr]; rfl
      refine ⟨_, st, rfl, ?_, by simp, ?_, .no, by rw [hm]; rfl, rfl⟩
      · intro D' hD'
        have : D' = D := by simpa using hD'
        subst this
        exact ⟨by simp only [*, ins_objs, if_true, if_false], hDn⟩
      · refine hun.trans ?_
        (refine leX.start ?_ rfl; (repeat (refine leX.in_ (by simp only [*, ins_objs, if_true, if_false]; first | done | rfl) ?_)); (repeat (first | refine leX.new (by first | assumption | (rw [hob]; assumption)) ?_ | refine leX.old (by (simp only [List.mem_cons, true_or, or_true, eq_self]; done)) ?_)); exact leX.refl _ _)
    · refine ⟨.done, some .ret, by simp, by simp [MS, St.ins], ?_⟩
      rw [jq_ret, MS]
      have hob := ho.objs
      have hun := ho.under
      clear hyY
      (repeat' (first | (simp (maxDischargeDepth := 16) only [*, vX, ↓vD, vU, ↓vMd, vMu, vZ, seval]) | (simp (disch := first | assumption | omega | rfl | exact fun _ => rfl) only [vP]) | ((with_reducible first | apply gsnd | apply csnd | apply gsd | apply csd | apply gsn | apply csn | apply gs | apply cs_) <;> intro _) | (with_reducible refine objQ_i (fun _ _ => ?_); repeat with_reducible refine imp_i (fun _ => ?_)) | ((try with_reducible refine appK_a ?_); first | (with_reducible refine appD_F (by refine ⟨?_, ?_, ?_, ?_⟩ <;> (first | assumption | omega | exact St.has_add (by assumption) | (simp only [ins_has]; exact St.has_add (by assumption)) | (simp only [ins_has, fresh_ins, kill_ins, add_ins] at *; exact St.has_add (by assumption)) | (simp only [*, ins_has, has_full, St.has_add]; done) | (simp [-List.map_take, -List.map_drop, or_imp, forall_and, Seg.a, Vec.a, Leg.a, num, okEl, cells_agg, cells_int, cells_sl, cells_bool, AV.isCell]; done) | (simp; omega))) (fun _ _ => ?_)) | (with_reducible refine appD_V (by refine ⟨?_, ?_, ?_, ?_, ?_⟩ <;> (first | assumption | omega | exact St.has_add (by assumption) | (simp only [ins_has]; exact St.has_add (by assumption)) | (simp only [ins_has, fresh_ins, kill_ins, add_ins] at *; exact St.has_add (by assumption)) | (simp only [*, ins_has, has_full, St.has_add]; done) | (simp [-List.map_take, -List.map_drop, or_imp, forall_and, Seg.a, Vec.a, Leg.a, num, okEl, cells_agg, cells_int, cells_sl, cells_bool, AV.isCell]; done) | (simp; omega))) (fun _ _ => ?_))) | (with_reducible refine freshQ_i (fun _ _ => ?_))))
      have hm : madeF jf f g = ([], e) := by rw [HN.out, HE.out.1, if_neg HE.out.2]
      refine ⟨_, st, rfl, ?_, by simp, ?_, .full, by rw [hm]; rfl, rfl⟩
      · intro D' hD'
        have : D' = D := by simpa using hD'
        subst this
        exact ⟨by simp only [*, ins_objs, if_true, if_false], hDn⟩
      · refine hun.trans ?_
        (refine leX.start ?_ rfl; (repeat (refine leX.in_ (by simp only [*, ins_objs, if_true, if_false]; first | done | rfl) ?_)); (repeat (first | refine leX.new (by first | assumption | (rw [hob]; assumption)) ?_ | refine leX.old (by (simp only [List.mem_cons, true_or, or_true, eq_self]; done)) ?_)); exact leX.refl _ _)
end Go.Proofs.YtglekfgoadehbaaDoor.V
end
section
set_option linter.unusedSimpArgs false
set_option linter.unusedVariables false
/- calc: Sub, Min, Max, Range, Add. -/
namespace Go.Proofs.YtglekfgoadehbaaDoor.V
open Go Go.Proofs
set_option maxRecDepth 100000
set_option maxHeartbeats 4000000
theorem Sub_c (f g : List Seg) (hf : f.length ≤ 1000000) (hg : g.length ≤ 1000000) (t t' : Tok) : VPure Tryd.prog 84 [.sl (f.map Seg.a) t, .sl (g.map Seg.a) t'] (.tup [.sl ((madeF subV f g).1.map Seg.a) .no, num (madeF subV f g).2]) := by
  refine VPure.of v_calc_Sub_ok (Nat.le_of_ble_eq_true rfl) (fun Z st => ?_)
  have h := made_c _ _ sub_joint f g hf hg t t'
  simp only [v_calc_Sub, ↓vD, vU, ↓vMd, vMu, vZ, seval, k_app, k_slc1]
  (repeat' (first | (simp (maxDischargeDepth := 16) only [*, num, vX, ↓vD, vU, ↓vMd, vMu, vZ, seval]) | (simp (disch := first | assumption | omega | rfl | exact fun _ => rfl) only [num, vP]) | ((with_reducible first | apply gsnd | apply csnd | apply gsd | apply csd | apply gsn | apply csn | apply gs | apply cs_) <;> intro _) | (with_reducible first | refine callH_use (h) ?_ | refine pureQ_use (h) ?_)))
theorem Min_c (f g : List Seg) (hf : f.length ≤ 1000000) (hg : g.length ≤ 1000000) (t t' : Tok) : VPure Tryd.prog 19 [.sl (f.map Seg.a) t, .sl (g.map Seg.a) t'] (.tup [.sl ((madeF (fun a b => (minV a b, 0)) f g).1.map Seg.a) .no, num (madeF (fun a b => (minV a b, 0)) f g).2]) := by
  refine VPure.of v_calc_Min_ok (Nat.le_of_ble_eq_true rfl) (fun Z st => ?_)
  have h := made_c _ _ min_joint f g hf hg t t'
  simp only [v_calc_Min, ↓vD, vU, ↓vMd, vMu, vZ, seval, k_app, k_slc1]
  (repeat' (first | (simp (maxDischargeDepth := 16) only [*, num, vX, ↓vD, vU, ↓vMd, vMu, vZ, seval]) | (simp (disch := first | assumption | omega | rfl | exact fun _ => rfl) only [num, vP]) | ((with_reducible first | apply gsnd | apply csnd | apply gsd | apply csd | apply gsn | apply csn | apply gs | apply cs_) <;> intro _) | (with_reducible first | refine callH_use (plain_c _) ?_ | refine pureQ_use (plain_c _) ?_) | (with_reducible first | refine callH_use (h) ?_ | refine pureQ_use (h) ?_)))
theorem Max_c (f g : List Seg) (hf : f.length ≤ 1000000) (hg : g.length ≤ 1000000) (t t' : Tok) : VPure Tryd.prog 18 [.sl (f.map Seg.a) t, .sl (g.map Seg.a) t'] (.tup [.sl ((madeF (fun a b => (maxV a b, 0)) f g).1.map Seg.a) .no, num (madeF (fun a b => (maxV a b, 0)) f g).2]) := by
  refine VPure.of v_calc_Max_ok (Nat.le_of_ble_eq_true rfl) (fun Z st => ?_)
  have h := made_c _ _ max_joint f g hf hg t t'
  simp only [v_calc_Max, ↓vD, vU, ↓vMd, vMu, vZ, seval, k_app, k_slc1]
  (repeat' (first | (simp (maxDischargeDepth := 16) only [*, num, vX, ↓vD, vU, ↓vMd, vMu, vZ, seval]) | (simp (disch := first | assumption | omega | rfl | exact fun _ => rfl) only [num, vP]) | ((with_reducible first | apply gsnd | apply csnd | apply gsd | apply csd | apply gsn | apply csn | apply gs | apply cs_) <;> intro _) | (with_reducible first | refine callH_use (plain_c _) ?_ | refine pureQ_use (plain_c _) ?_) | (with_reducible first | refine callH_use (h) ?_ | refine pureQ_use (h) ?_)))
def rangeC (f : List Seg) (a b : Int) (v : Vec) : List Seg × Int := if mayF f then (if (boxF1 a b v).2 = 0 then madeF add2 f (boxF1 a b v).1 else ([], (boxF1 a b v).2)) else ([], 5)
theorem boxF1_len (a b : Int) (v : Vec) : (boxF1 a b v).1.length ≤ 2 := by
  unfold boxF1; split
  · simp
  · unfold ofF; split
    · exact foldF_len _
    · simp
theorem Range_c (f : List Seg) (hf : f.length ≤ 1000000) (t : Tok) (a b m c : Int) : VPure Tryd.prog 10 [.sl (f.map Seg.a) t, .int .i64 a, .int .i64 b, .agg [.int .i64 m, .int .i64 c]] (.tup [.sl ((rangeC f a b ⟨m, c⟩).1.map Seg.a) .no, num (rangeC f a b ⟨m, c⟩).2]) := by
  refine VPure.tokT (fun Z st => ?_)
  have hm := may1_c f hf .full t
  have hb := Box_v a b m c
  have hl := boxF1_len a b ⟨m, c⟩
  obtain ⟨r, hr⟩ : ∃ r, boxF1 a b ⟨m, c⟩ = r := ⟨_, rfl⟩
  have hd := made_c _ _ sum_joint f r.1 hf (by rw [hr] at hl; omega) t .no
  rw [hr] at hb hl
  have HR : Hid (rangeC f a b ⟨m, c⟩ = if mayF f then (if r.2 = 0 then madeF add2 f r.1 else ([], r.2)) else ([], 5)) := ⟨by unfold rangeC; rw [hr]⟩
  clear hr hl
  unfold num at hb hd
  refine VCalls.of v_calc_Range_ok (Nat.le_of_ble_eq_true rfl) ?_
  simp only [v_calc_Range, ↓vD, vU, ↓vMd, vMu, vZ, seval, k_app, k_slc1]
  (repeat' (first | (simp (maxDischargeDepth := 16) only [*, vX, ↓vD, vU, ↓vMd, vMu, vZ, seval]) | (simp (disch := first | assumption | omega | rfl | exact fun _ => rfl) only [vP]) | ((with_reducible first | apply gsnd | apply csnd | apply gsd | apply csd | apply gsn | apply csn | apply gs | apply cs_) <;> intro _) | (with_reducible refine objQ_i (fun _ _ => ?_); repeat with_reducible refine imp_i (fun _ => ?_)) | (with_reducible first | refine callH_use (hm) ?_ | refine pureQ_use (hm) ?_) | (with_reducible first | refine callH_use (hb) ?_ | refine pureQ_use (hb) ?_) | (with_reducible first | refine callH_use (hd) ?_ | refine pureQ_use (hd) ?_) | (with_reducible first | refine callH_use (sum_c) ?_ | refine pureQ_use (sum_c) ?_)))
  · rename_i h1
    exact ⟨st, by (refine ⟨fun i o e => ?_, fun _ h => h⟩; revert e; simp only [St.ins, St.del, add_objs, kill_objs]; (repeat' split); all_goals (first | exact id | (intros; contradiction) | (intros; subst_vars; contradiction) | (intros; simp_all; done) | (intros; subst_vars; simp_all; done))), .full, by rw [HR.out, h1]; rfl, rfl⟩
  · rename_i h1 h2
    have h3 : ¬ r.2 = 0 := by simpa using h2
    exact ⟨st, by (refine ⟨fun i o e => ?_, fun _ h => h⟩; revert e; simp only [St.ins, St.del, add_objs, kill_objs]; (repeat' split); all_goals (first | exact id | (intros; contradiction) | (intros; subst_vars; contradiction) | (intros; simp_all; done) | (intros; subst_vars; simp_all; done))), .full, by rw [HR.out, h1, if_pos rfl, if_neg h3]; rfl, rfl⟩
  · rename_i h1 h2
    have h3 : r.2 = 0 := by simpa using h2
    exact ⟨st, by (refine ⟨fun i o e => ?_, fun _ h => h⟩; revert e; simp only [St.ins, St.del, add_objs, kill_objs]; (repeat' split); all_goals (first | exact id | (intros; contradiction) | (intros; subst_vars; contradiction) | (intros; simp_all; done) | (intros; subst_vars; simp_all; done))), .no, by rw [HR.out, h1, if_pos rfl, if_pos h3]; rfl, rfl⟩
theorem rawJ_len (jf : Vec → Vec → Vec × Int) : ∀ (L : List (Int × Vec × Vec)) (acc : List Seg), (rawJ jf L acc).1.length ≤ acc.length + L.length
  | [], acc => Nat.le_refl _
  | it :: L, acc => by
    unfold rawJ
    split
    · have := rawJ_len jf L (acc ++ [⟨it.1, (jf it.2.1 it.2.2).1⟩])
      simp at this ⊢; omega
    · simp
theorem madeF_len (jf : Vec → Vec → Vec × Int) (f g : List Seg) : (madeF jf f g).1.length ≤ f.length + g.length := by
  have h1 := rawJ_len jf (bothF f g v0 v0) []
  have h2 := bothF_len f g v0 v0
  have h3 := foldF_len (rawJ jf (bothF f g v0 v0) []).1
  simp at h1
  unfold madeF; split
  · split
    · unfold ofF; split
      · simp; omega
      · simp
    · simp
  · simp
end Go.Proofs.YtglekfgoadehbaaDoor.V
end
section
set_option linter.unusedSimpArgs false
set_option linter.unusedVariables false
/- liveryref03.LE. -/
namespace Go.Proofs.YtglekfgoadehbaaDoor.V
open Go Go.Proofs
set_option maxRecDepth 100000
set_option maxHeartbeats 4000000
def leV (a b : Vec) : Bool := decide (a.m ≤ b.m) && decide (a.c ≤ b.c)
def leHit (f g : List Seg) (a t : Int) : Bool := decide (a ≤ t) && !leV (atF f t) (atF g t)
def leFind (us : List Int) (p : Int → Bool) : Int × Bool × Int := match us.find? p with | some t => (t, false, 0) | none => (0, true, 0)
def leR (f g : List Seg) (a : Int) : Int × Bool × Int := if mayF f && mayF g then leFind (timesF (timesF (f.map (·.t) ++ g.map (·.t)) ++ [a])) (leHit f g a) else (0, false, 5)
theorem find_at {α : Type} {p : α → Bool} {xs : List α} {k : Nat} (hk : k < xs.length) (h0 : ∀ j (h : j < k), p (xs[j]'(by omega)) = false) (h : p xs[k] = true) : xs.find? p = some xs[k] := by
  rw [List.find?_eq_some_iff_getElem]
  exact ⟨h, k, hk, rfl, fun j hj => by rw [h0 j hj]; rfl⟩
theorem find_no {α : Type} {p : α → Bool} {xs : List α} (h0 : ∀ j (h : j < xs.length), p xs[j] = false) : xs.find? p = none := by
  rw [List.find?_eq_none]
  intro x hx
  obtain ⟨k, hk, rfl⟩ := List.getElem_of_mem hx
  rw [h0 k hk]; simp
theorem LE_3 (f g : List Seg) (hf : f.length ≤ 1000000) (hg : g.length ≤ 1000000) (t t' : Tok) (a : Int) : VPure Tryd.prog 36 [.sl (f.map Seg.a) t, .sl (g.map Seg.a) t', .int .i64 a] (.tup [num (leR f g a).1, .bool (leR f g a).2.1, num (leR f g a).2.2]) := by
  refine VPure.of v_liveryref03_LE_ok (Nat.le_of_ble_eq_true rfl) (fun Z st => ?_)
  have hmf := May_2 f (by omega) t
  have hmg := May_2 g (by omega) t'
  have hT := Times_3 f g (by omega) (by omega) t t'
  have htl := timesF_len (f.map (·.t) ++ g.map (·.t))
  obtain ⟨ts, hts⟩ : ∃ ts, timesF (f.map (·.t) ++ g.map (·.t)) = ts := ⟨_, rfl⟩
  have hle : leR f g a = if mayF f && mayF g then leFind (timesF (ts ++ [a])) (leHit f g a) else (0, false, 5) := by unfold leR; rw [hts]
  rw [hts] at hT htl
  have hlen : ts.length ≤ 2000000 := by simp at htl; omega
  have hT2 := fun tk => (Times_2 (ts ++ [a]) (by simp; omega) tk).pure
  have htl2 := timesF_len (ts ++ [a])
  obtain ⟨us, hus⟩ : ∃ us, timesF (ts ++ [a]) = us := ⟨_, rfl⟩
  rw [hus] at hle hT2 htl2
  have hlen2 : us.length ≤ 2000001 := by simp at htl2; omega
  have e : (ts ++ [a]).map num = ts.map num ++ [.int .i64 a] := by simp [num]
  simp only [e] at hT2
  have HD := Hid.mk hle
  have HT := Hid.mk hT
  clear hts hus htl htl2 hle e hT
  simp only [v_liveryref03_LE, ↓vD, vU, ↓vMd, vMu, vZ, seval, k_app, k_slc1]
  (repeat' (first | (simp (maxDischargeDepth := 16) only [*, num, vX, ↓vD, vU, ↓vMd, vMu, vZ, seval]) | (simp (disch := first | assumption | omega | rfl | exact fun _ => rfl) only [num, vP]) | ((with_reducible first | apply gsnd | apply csnd | apply gsd | apply csd | apply gsn | apply csn | apply gs | apply cs_) <;> intro _) | ((try with_reducible refine appK_a ?_); first | (with_reducible refine appD_F (by refine ⟨?_, ?_, ?_, ?_⟩ <;> (first | assumption | omega | exact St.has_add (by assumption) | (simp only [ins_has]; exact St.has_add (by assumption)) | (simp only [ins_has, fresh_ins, kill_ins, add_ins] at *; exact St.has_add (by assumption)) | (simp only [*, ins_has, has_full, St.has_add]; done) | (simp [-List.map_take, -List.map_drop, or_imp, forall_and, Seg.a, Vec.a, Leg.a, num, okEl, cells_agg, cells_int, cells_sl, cells_bool, AV.isCell]; done) | (simp; omega))) (fun _ _ => ?_)) | (with_reducible refine appD_V (by refine ⟨?_, ?_, ?_, ?_, ?_⟩ <;> (first | assumption | omega | exact St.has_add (by assumption) | (simp only [ins_has]; exact St.has_add (by assumption)) | (simp only [ins_has, fresh_ins, kill_ins, add_ins] at *; exact St.has_add (by assumption)) | (simp only [*, ins_has, has_full, St.has_add]; done) | (simp [-List.map_take, -List.map_drop, or_imp, forall_and, Seg.a, Vec.a, Leg.a, num, okEl, cells_agg, cells_int, cells_sl, cells_bool, AV.isCell]; done) | (simp; omega))) (fun _ _ => ?_))) | (with_reducible refine freshQ_i (fun _ _ => ?_)) | (with_reducible first | refine callH_use (hmf) ?_ | refine pureQ_use (hmf) ?_) | (with_reducible first | refine callH_use (hmg) ?_ | refine pureQ_use (hmg) ?_)))
  · rename_i h1
    rw [HD.out, h1]; rfl
  · rename_i h1 h2
    rw [HD.out, h1, h2]; rfl
  rename_i h1 h2
  have HE : Hid (leR f g a = leFind us (leHit f g a)) := ⟨by rw [HD.out, h1, h2]; rfl⟩
  clear HD
  refine callH_then (HT.out Z st) ?_
  rintro _ s1 ⟨t1, ho1, rfl⟩
  have hts := ho1.has
  have hT3 := hT2
  (repeat' (first | (simp (maxDischargeDepth := 16) only [*, num, vX, ↓vD, vU, ↓vMd, vMu, vZ, seval]) | (simp (disch := first | assumption | omega | rfl | exact fun _ => rfl) only [num, vP]) | ((with_reducible first | apply gsnd | apply csnd | apply gsd | apply csd | apply gsn | apply csn | apply gs | apply cs_) <;> intro _) | ((try with_reducible refine appK_a ?_); first | (with_reducible refine appD_F (by refine ⟨?_, ?_, ?_, ?_⟩ <;> (first | assumption | omega | exact St.has_add (by assumption) | (simp only [ins_has]; exact St.has_add (by assumption)) | (simp only [ins_has, fresh_ins, kill_ins, add_ins] at *; exact St.has_add (by assumption)) | (simp only [*, ins_has, has_full, St.has_add]; done) | (simp [-List.map_take, -List.map_drop, or_imp, forall_and, Seg.a, Vec.a, Leg.a, num, okEl, cells_agg, cells_int, cells_sl, cells_bool, AV.isCell]; done) | (simp; omega))) (fun _ _ => ?_)) | (with_reducible refine appD_V (by refine ⟨?_, ?_, ?_, ?_, ?_⟩ <;> (first | assumption | omega | exact St.has_add (by assumption) | (simp only [ins_has]; exact St.has_add (by assumption)) | (simp only [ins_has, fresh_ins, kill_ins, add_ins] at *; exact St.has_add (by assumption)) | (simp only [*, ins_has, has_full, St.has_add]; done) | (simp [-List.map_take, -List.map_drop, or_imp, forall_and, Seg.a, Vec.a, Leg.a, num, okEl, cells_agg, cells_int, cells_sl, cells_bool, AV.isCell]; done) | (simp; omega))) (fun _ _ => ?_))) | (with_reducible refine freshQ_i (fun _ _ => ?_)) | (with_reducible first | refine callH_use (hmf) ?_ | refine pureQ_use (hmf) ?_) | (with_reducible first | refine callH_use (hmg) ?_ | refine pureQ_use (hmg) ?_) | (with_reducible first | refine callH_use (hT2 _) ?_ | refine pureQ_use (hT2 _) ?_)))
  rename_i t2 hf2
  have hU := (ho1.next hf2).under
  obtain ⟨S, hS⟩ : ∃ S, (s1.kill t1).add t2 = S := ⟨_, rfl⟩
  rw [hS] at hU ⊢
  clear hf2 hS hts ho1 HT hT3 hT2
  refine loopf_of (len := us.length) (by simp only [asgL, dsts, List.cons_append, List.nil_append, List.append_nil]; rfl) (by simp only [noR, Bool.and_true, Bool.and_false]; rfl) (by omega) (fun k fr2 s2 => s2 = S ∧ fr2.t 10 = .int .i64 k ∧ ∀ j, (h1 : j < k) → (h2 : j < us.length) → leHit f g a us[j] = false) ?_ ?_ ?_
  · simp [↓vD, vU, ↓vMd, vMu, vZ, seval, k_app, k_slc1]
  · rintro k fr2 s2 hk hw hf2 hd2 ⟨rfl, h10, hno⟩
    have hA := At_2 f (by omega) t us[k]
    have hB := At_2 g (by omega) t' us[k]
    unfold num at hA hB
    have HF := fun h => find_at (p := leHit f g a) hk (fun j hj => hno j hj (by omega)) h
    have HH := Hid.mk HF
    have HN := Hid.mk hno
    have hhit : leHit f g a us[k] = (decide (a ≤ us[k]) && !(decide ((atF f us[k]).m ≤ (atF g us[k]).m) && decide ((atF f us[k]).c ≤ (atF g us[k]).c))) := rfl
    obtain ⟨x, hx⟩ : ∃ x, us[k] = x := ⟨_, rfl⟩
    rw [hx] at hhit
    simp only [hx] at HH hA hB
    have HX := Hid.mk (And.intro hx hhit)
    clear HF hno hhit
    (repeat' (first | (simp (maxDischargeDepth := 16) only [*, num, vX, ↓vD, vU, ↓vMd, vMu, vZ, seval]) | (simp (disch := first | assumption | omega | rfl | exact fun _ => rfl) only [num, vP]) | ((with_reducible first | apply gsnd | apply csnd | apply gsd | apply csd | apply gsn | apply csn | apply gs | apply cs_) <;> intro _) | ((try with_reducible refine appK_a ?_); first | (with_reducible refine appD_F (by refine ⟨?_, ?_, ?_, ?_⟩ <;> (first | assumption | omega | exact St.has_add (by assumption) | (simp only [ins_has]; exact St.has_add (by assumption)) | (simp only [ins_has, fresh_ins, kill_ins, add_ins] at *; exact St.has_add (by assumption)) | (simp only [*, ins_has, has_full, St.has_add]; done) | (simp [-List.map_take, -List.map_drop, or_imp, forall_and, Seg.a, Vec.a, Leg.a, num, okEl, cells_agg, cells_int, cells_sl, cells_bool, AV.isCell]; done) | (simp; omega))) (fun _ _ => ?_)) | (with_reducible refine appD_V (by refine ⟨?_, ?_, ?_, ?_, ?_⟩ <;> (first | assumption | omega | exact St.has_add (by assumption) | (simp only [ins_has]; exact St.has_add (by assumption)) | (simp only [ins_has, fresh_ins, kill_ins, add_ins] at *; exact St.has_add (by assumption)) | (simp only [*, ins_has, has_full, St.has_add]; done) | (simp [-List.map_take, -List.map_drop, or_imp, forall_and, Seg.a, Vec.a, Leg.a, num, okEl, cells_agg, cells_int, cells_sl, cells_bool, AV.isCell]; done) | (simp; omega))) (fun _ _ => ?_))) | (with_reducible refine freshQ_i (fun _ _ => ?_)) | (with_reducible first | refine callH_use (hA) ?_ | refine pureQ_use (hA) ?_) | (with_reducible first | refine callH_use (hB) ?_ | refine pureQ_use (hB) ?_) | (with_reducible first | refine callH_use (LE_1 _ _ _ _) ?_ | refine pureQ_use (LE_1 _ _ _ _) ?_)))
    · rename_i h3 h4
      have hh : leHit f g a x = true := by rw [HX.out.2, decide_eq_true h3, h4]; rfl
      rw [HE.out, leFind, HH.out hh]
    all_goals
      intro j h1 h2
      rcases Nat.lt_or_ge j k with hjk | hjk
      · exact HN.out j hjk h2
      · have hj : j = k := by omega
        subst hj
        rw [hx, HX.out.2]
        first
        | (rw [decide_eq_false (by assumption : ¬ a ≤ x)]; rfl)
        | (rw [show (decide ((atF f x).m ≤ (atF g x).m) && decide ((atF f x).c ≤ (atF g x).c)) = true from by assumption]; simp)
  · rintro fr2 s2 hf2 hd2 ⟨rfl, h10, hno⟩
    have hfn := find_no (p := leHit f g a) (xs := us) (fun j h => hno j h h)
    have HX := Hid.mk hfn
    clear hfn hno
    (repeat' (first | (simp (maxDischargeDepth := 16) only [*, num, vX, ↓vD, vU, ↓vMd, vMu, vZ, seval]) | (simp (disch := first | assumption | omega | rfl | exact fun _ => rfl) only [num, vP]) | ((with_reducible first | apply gsnd | apply csnd | apply gsd | apply csd | apply gsn | apply csn | apply gs | apply cs_) <;> intro _) | ((try with_reducible refine appK_a ?_); first | (with_reducible refine appD_F (by refine ⟨?_, ?_, ?_, ?_⟩ <;> (first | assumption | omega | exact St.has_add (by assumption) | (simp only [ins_has]; exact St.has_add (by assumption)) | (simp only [ins_has, fresh_ins, kill_ins, add_ins] at *; exact St.has_add (by assumption)) | (simp only [*, ins_has, has_full, St.has_add]; done) | (simp [-List.map_take, -List.map_drop, or_imp, forall_and, Seg.a, Vec.a, Leg.a, num, okEl, cells_agg, cells_int, cells_sl, cells_bool, AV.isCell]; done) | (simp; omega))) (fun _ _ => ?_)) | (with_reducible refine appD_V (by refine ⟨?_, ?_, ?_, ?_, ?_⟩ <;> (first | assumption | omega | exact St.has_add (by assumption) | (simp only [ins_has]; exact St.has_add (by assumption)) | (simp only [ins_has, fresh_ins, kill_ins, add_ins] at *; exact St.has_add (by assumption)) | (simp only [*, ins_has, has_full, St.has_add]; done) | (simp [-List.map_take, -List.map_drop, or_imp, forall_and, Seg.a, Vec.a, Leg.a, num, okEl, cells_agg, cells_int, cells_sl, cells_bool, AV.isCell]; done) | (simp; omega))) (fun _ _ => ?_))) | (with_reducible refine freshQ_i (fun _ _ => ?_))))
    rw [HE.out, leFind, HX.out]
end Go.Proofs.YtglekfgoadehbaaDoor.V
end
section
set_option linter.unusedSimpArgs false
set_option linter.unusedVariables false
/- calc.LE. -/
namespace Go.Proofs.YtglekfgoadehbaaDoor.V
open Go Go.Proofs
set_option maxRecDepth 100000
set_option maxHeartbeats 4000000
end Go.Proofs.YtglekfgoadehbaaDoor.V
end
section
set_option linter.unusedSimpArgs false
set_option linter.unusedVariables false
/- What calc's functions mean: plain. -/
namespace Go.Proofs.YtglekfgoadehbaaDoor.V
open Go Go.Proofs Go.Proofs.YtglekfgoadehbaaDoor.SP
/-! ### Rising rows of times -/
theorem up_unique : ∀ (l m : List Int), l.Pairwise (· < ·) → m.Pairwise (· < ·) → (∀ x, x ∈ l ↔ x ∈ m) → l = m
  | [], [], _, _, _ => rfl
  | [], y :: m, _, _, h => absurd ((h y).2 (by simp)) (by simp)
  | x :: l, [], _, _, h => absurd ((h x).1 (by simp)) (by simp)
  | x :: l, y :: m, hl, hm, h => by
    have h1 := List.pairwise_cons.1 hl
    have h2 := List.pairwise_cons.1 hm
    have hxy : x = y := by
      have a := (h x).1 (by simp)
      have b := (h y).2 (by simp)
      rcases List.mem_cons.1 a with a | a
      · exact a
      · rcases List.mem_cons.1 b with b | b
        · exact b.symm
        · have := h1.1 y b; have := h2.1 x a; omega
    subst hxy
    congr 1
    refine up_unique l m h1.2 h2.2 (fun z => ⟨fun hz => ?_, fun hz => ?_⟩)
    · rcases List.mem_cons.1 ((h z).1 (by simp [hz])) with e | e
      · have := h1.1 z hz; omega
      · exact e
    · rcases List.mem_cons.1 ((h z).2 (by simp [hz])) with e | e
      · have := h2.1 z hz; omega
      · exact e
def insR : List Int → Int → List Int
  | [], x => [x]
  | y :: l, x => if y < x then y :: insR l x else if y = x then y :: l else x :: y :: l
theorem insT_R : ∀ (l : List Int) (x : Int), insT l x = insR l x
  | [], x => by simp [insT, insR, cntT]
  | y :: l, x => by
    have ih := insT_R l x
    unfold insT at ih
    unfold insT insR cntT
    by_cases h : y < x
    · rw [if_pos h, if_pos h]
      simp only [List.getElem?_cons_succ, List.take_succ_cons, List.drop_succ_cons, List.cons_append]
      rw [← ih]
      split <;> rfl
    · rw [if_neg h, if_neg h]
      by_cases h2 : y = x
      · simp [h2]
      · simp [h2]
theorem mem_insR : ∀ (l : List Int) (x z : Int), z ∈ insR l x ↔ z = x ∨ z ∈ l
  | [], x, z => by simp [insR]
  | y :: l, x, z => by
    unfold insR
    split
    · simp only [List.mem_cons, mem_insR l x z]; grind
    · split <;> simp only [List.mem_cons] <;> grind
theorem up_insR : ∀ (l : List Int) (x : Int), l.Pairwise (· < ·) → (insR l x).Pairwise (· < ·)
  | [], x, _ => by simp [insR]
  | y :: l, x, h => by
    have hy := List.pairwise_cons.1 h
    unfold insR
    split
    · rename_i h1
      refine List.pairwise_cons.2 ⟨fun z hz => ?_, up_insR l x hy.2⟩
      rcases (mem_insR l x z).1 hz with rfl | hz
      · exact h1
      · exact hy.1 z hz
    · split
      · exact h
      · refine List.pairwise_cons.2 ⟨fun z hz => ?_, h⟩
        rcases List.mem_cons.1 hz with rfl | hz
        · omega
        · have := hy.1 z hz; omega
theorem times_fold : ∀ (l acc : List Int), acc.Pairwise (· < ·) → (l.foldl insT acc).Pairwise (· < ·) ∧ ∀ z, z ∈ l.foldl insT acc ↔ z ∈ acc ∨ z ∈ l
  | [], acc, h => ⟨h, by simp⟩
  | x :: l, acc, h => by
    have h1 : (insT acc x).Pairwise (· < ·) := by rw [insT_R]; exact up_insR acc x h
    obtain ⟨a, b⟩ := times_fold l (insT acc x) h1
    refine ⟨a, fun z => ?_⟩
    rw [List.foldl_cons, b z, insT_R, mem_insR, List.mem_cons]
    grind
theorem timesF_up (l : List Int) : (timesF l).Pairwise (· < ·) := (times_fold l [] List.Pairwise.nil).1
theorem mem_timesF (l : List Int) (z : Int) : z ∈ timesF l ↔ z ∈ l := by
  have := (times_fold l [] List.Pairwise.nil).2 z
  simpa [timesF] using this
theorem timesF_self {l : List Int} (h : l.Pairwise (· < ·)) : timesF l = l := up_unique _ _ (timesF_up l) h (mem_timesF l)
/-! ### What may be -/
def mayL : List Seg → Vec → Int → Bool
  | [], _, _ => true
  | x :: r, l, a => !odd l a x && mayL r x.v x.t
def oddG (l : Vec) (a : Int) (xs : List Seg) (k : Nat) : Bool := (xs[k]?.map (odd (if k = 0 then l else (xs[k - 1]?.map (·.v)).getD v0) (if k = 0 then a else (xs[k - 1]?.map (·.t)).getD 0))).getD false
theorem mayL_any : ∀ (xs : List Seg) (l : Vec) (a : Int), (List.range xs.length).any (oddG l a xs) = !mayL xs l a
  | [], l, a => rfl
  | x :: r, l, a => by
    have ih := mayL_any r x.v x.t
    rw [List.length_cons, List.range_succ_eq_map, List.any_cons, List.any_map]
    have e : (oddG l a (x :: r)) ∘ Nat.succ = oddG x.v x.t r := by
      funext k
      cases k with
      | zero => simp [oddG]
      | succ k => simp [oddG]
    rw [e, ih]
    simp [oddG, mayL]
theorem mayF_L (xs : List Seg) : mayF xs = mayL xs v0 (-1125899906842625) := by
  have h := mayL_any xs v0 (-1125899906842625)
  have e : oddI xs = oddG v0 (-1125899906842625) xs := by funext k; rfl
  unfold mayF
  rw [e, h]; simp
theorem mayL_iff : ∀ (xs : List Seg) (l : Vec) (a : Int), mayL xs l a = true ↔ Canon xs l ∧ (∀ x ∈ xs, inSeg x = true) ∧ ∀ x ∈ xs, a < x.t
  | [], l, a => by simp [mayL, Canon]
  | x :: r, l, a => by
    rw [mayL, Bool.and_eq_true, mayL_iff r x.v x.t, Canon]
    have ho : (!odd l a x) = true ↔ inSeg x = true ∧ ¬ x.v = l ∧ a < x.t := by
      unfold odd
      simp only [Bool.not_eq_true', Bool.or_eq_false_iff, beq_eq_false_iff_ne, ne_eq, decide_eq_false_iff_not, Bool.not_eq_false']
      constructor
      · rintro ⟨⟨h1, h2⟩, h3⟩; exact ⟨h1, h2, by omega⟩
      · rintro ⟨h1, h2, h3⟩; exact ⟨⟨h1, h2⟩, by omega⟩
    rw [ho]
    constructor
    · rintro ⟨⟨h1, h2, h3⟩, h4, h5, h6⟩
      refine ⟨⟨h2, h6, h4⟩, fun y hy => ?_, fun y hy => ?_⟩
      · rcases List.mem_cons.1 hy with rfl | hy
        · exact h1
        · exact h5 y hy
      · rcases List.mem_cons.1 hy with rfl | hy
        · exact h3
        · have := h6 y hy; omega
    · rintro ⟨⟨h2, h6, h4⟩, h5, h7⟩
      exact ⟨⟨h5 x (by simp), h2, h7 x (by simp)⟩, h4, fun y hy => h5 y (by simp [hy]), h6⟩
theorem mayF_iff (xs : List Seg) : mayF xs = true ↔ Canon xs v0 ∧ ∀ x ∈ xs, inSeg x = true := by
  rw [mayF_L, mayL_iff]
  refine ⟨fun h => ⟨h.1, h.2.1⟩, fun h => ⟨h.1, h.2, fun x hx => ?_⟩⟩
  have := h.2 x hx
  unfold inSeg inR at this
  simp only [Bool.and_eq_true, decide_eq_true_eq] at this
  omega
theorem Canon.up : ∀ {xs : List Seg} {l : Vec}, Canon xs l → (xs.map (·.t)).Pairwise (· < ·)
  | [], _, _ => List.Pairwise.nil
  | x :: r, l, h => by
    rw [List.map_cons, List.pairwise_cons]
    refine ⟨fun z hz => ?_, h.2.2.up⟩
    obtain ⟨y, hy, rfl⟩ := List.mem_map.1 hz
    exact h.2.1 y hy
/-! ### Both at once -/
theorem atF_P (xs : List Seg) (t : Int) : atF xs t = atP v0 xs t := rfl
theorem both_spec : ∀ (f g : List Seg) (a b : Vec), (f.map (·.t)).Pairwise (· < ·) → (g.map (·.t)).Pairwise (· < ·) →
    ((bothF f g a b).map (·.1)).Pairwise (· < ·) ∧ (∀ t, t ∈ (bothF f g a b).map (·.1) ↔ t ∈ f.map (·.t) ∨ t ∈ g.map (·.t)) ∧ ∀ it ∈ bothF f g a b, it.2.1 = atP a f it.1 ∧ it.2.2 = atP b g it.1
  | [], [], a, b, _, _ => by rw [bothF]; simp
  | x :: f, [], a, b, hf, hg => by
    rw [List.map_cons, List.pairwise_cons] at hf
    obtain ⟨h1, h2, h3⟩ := both_spec f [] x.v b hf.2 hg
    have hlt : ∀ t ∈ (bothF f [] x.v b).map (·.1), x.t < t := fun t ht => hf.1 t (by rcases (h2 t).1 ht with h | h; exact h; simp at h)
    rw [bothF]
    refine ⟨by rw [List.map_cons, List.pairwise_cons]; exact ⟨hlt, h1⟩, fun t => ?_, fun it hit => ?_⟩
    · rw [List.map_cons, List.mem_cons, h2 t]; simp
    · rcases List.mem_cons.1 hit with rfl | hit
      · refine ⟨?_, rfl⟩
        rw [atP_cons _ _ _ _ (Int.le_refl _), atP_late _ _ _ (fun z hz => hf.1 z.t (List.mem_map.2 ⟨z, hz, rfl⟩))]
      · have hl := hlt it.1 (List.mem_map.2 ⟨it, hit, rfl⟩)
        rw [atP_cons _ _ _ _ (by omega)]
        exact h3 it hit
  | [], y :: g, a, b, hf, hg => by
    rw [List.map_cons, List.pairwise_cons] at hg
    obtain ⟨h1, h2, h3⟩ := both_spec [] g a y.v hf hg.2
    have hlt : ∀ t ∈ (bothF [] g a y.v).map (·.1), y.t < t := fun t ht => hg.1 t (by rcases (h2 t).1 ht with h | h; simp at h; exact h)
    rw [bothF]
    refine ⟨by rw [List.map_cons, List.pairwise_cons]; exact ⟨hlt, h1⟩, fun t => ?_, fun it hit => ?_⟩
    · rw [List.map_cons, List.mem_cons, h2 t]; simp
    · rcases List.mem_cons.1 hit with rfl | hit
      · refine ⟨rfl, ?_⟩
        rw [atP_cons _ _ _ _ (Int.le_refl _), atP_late _ _ _ (fun z hz => hg.1 z.t (List.mem_map.2 ⟨z, hz, rfl⟩))]
      · have hl := hlt it.1 (List.mem_map.2 ⟨it, hit, rfl⟩)
        rw [atP_cons b _ _ _ (by omega)]
        exact h3 it hit
  | x :: f, y :: g, a, b, hf, hg => by
    have hf' := hf; have hg' := hg
    rw [List.map_cons, List.pairwise_cons] at hf hg
    have lateF : ∀ t, t ≤ x.t → ∀ z ∈ f, t < z.t := fun t ht z hz => by have := hf.1 z.t (List.mem_map.2 ⟨z, hz, rfl⟩); omega
    have lateG : ∀ t, t ≤ y.t → ∀ z ∈ g, t < z.t := fun t ht z hz => by have := hg.1 z.t (List.mem_map.2 ⟨z, hz, rfl⟩); omega
    rw [bothF]
    split
    · rename_i c
      obtain ⟨h1, h2, h3⟩ := both_spec f (y :: g) x.v b hf.2 hg'
      have hlt : ∀ t ∈ (bothF f (y :: g) x.v b).map (·.1), x.t < t := fun t ht => by
        rcases (h2 t).1 ht with h | h
        · exact hf.1 t h
        · rw [List.map_cons, List.mem_cons] at h
          rcases h with rfl | h
          · exact c
          · have := hg.1 t h; omega
      refine ⟨by rw [List.map_cons, List.pairwise_cons]; exact ⟨hlt, h1⟩, fun t => ?_, fun it hit => ?_⟩
      · rw [List.map_cons, List.mem_cons, h2 t]; simp only [List.map_cons, List.mem_cons]; grind
      · rcases List.mem_cons.1 hit with rfl | hit
        · refine ⟨?_, ?_⟩
          · rw [atP_cons _ _ _ _ (Int.le_refl _), atP_late _ _ _ (lateF _ (Int.le_refl _))]
          · rw [atP_late b _ _ (fun z hz => by rcases List.mem_cons.1 hz with rfl | hz; exact c; exact lateG _ (Int.le_of_lt c) z hz)]
        · have hl := hlt it.1 (List.mem_map.2 ⟨it, hit, rfl⟩)
          rw [atP_cons a _ _ _ (by omega)]
          exact h3 it hit
    · split
      · rename_i c0 c
        obtain ⟨h1, h2, h3⟩ := both_spec (x :: f) g a y.v hf' hg.2
        have hlt : ∀ t ∈ (bothF (x :: f) g a y.v).map (·.1), y.t < t := fun t ht => by
          rcases (h2 t).1 ht with h | h
          · rw [List.map_cons, List.mem_cons] at h
            rcases h with rfl | h
            · exact c
            · have := hf.1 t h; omega
          · exact hg.1 t h
        refine ⟨by rw [List.map_cons, List.pairwise_cons]; exact ⟨hlt, h1⟩, fun t => ?_, fun it hit => ?_⟩
        · rw [List.map_cons, List.mem_cons, h2 t]; simp only [List.map_cons, List.mem_cons]; grind
        · rcases List.mem_cons.1 hit with rfl | hit
          · refine ⟨?_, ?_⟩
            · rw [atP_late a _ _ (fun z hz => by rcases List.mem_cons.1 hz with rfl | hz; exact c; exact lateF _ (Int.le_of_lt c) z hz)]
            · rw [atP_cons _ _ _ _ (Int.le_refl _), atP_late _ _ _ (lateG _ (Int.le_refl _))]
          · have hl := hlt it.1 (List.mem_map.2 ⟨it, hit, rfl⟩)
            rw [atP_cons b _ _ _ (by omega)]
            exact h3 it hit
      · rename_i c0 c1
        have c : x.t = y.t := by omega
        obtain ⟨h1, h2, h3⟩ := both_spec f g x.v y.v hf.2 hg.2
        have hlt : ∀ t ∈ (bothF f g x.v y.v).map (·.1), x.t < t := fun t ht => by
          rcases (h2 t).1 ht with h | h
          · exact hf.1 t h
          · have := hg.1 t h; omega
        refine ⟨by rw [List.map_cons, List.pairwise_cons]; exact ⟨hlt, h1⟩, fun t => ?_, fun it hit => ?_⟩
        · rw [List.map_cons, List.mem_cons, h2 t]; simp only [List.map_cons, List.mem_cons]; grind
        · rcases List.mem_cons.1 hit with rfl | hit
          · refine ⟨?_, ?_⟩
            · rw [atP_cons _ _ _ _ (Int.le_refl _), atP_late _ _ _ (lateF _ (Int.le_refl _))]
            · rw [atP_cons _ _ _ _ (by omega), atP_late _ _ _ (lateG _ (by omega))]
          · have hl := hlt it.1 (List.mem_map.2 ⟨it, hit, rfl⟩)
            rw [atP_cons a _ _ _ (by omega), atP_cons b _ _ _ (by omega)]
            exact h3 it hit
termination_by f g => f.length + g.length
theorem both_times (f g : List Seg) (hf : (f.map (·.t)).Pairwise (· < ·)) (hg : (g.map (·.t)).Pairwise (· < ·)) : bothF f g v0 v0 = (timesF (f.map (·.t) ++ g.map (·.t))).map fun t => (t, atF f t, atF g t) := by
  obtain ⟨h1, h2, h3⟩ := both_spec f g v0 v0 hf hg
  have e : (bothF f g v0 v0).map (·.1) = timesF (f.map (·.t) ++ g.map (·.t)) := up_unique _ _ h1 (timesF_up _) (fun t => by rw [h2 t, mem_timesF, List.mem_append])
  rw [← e, List.map_map]
  conv => lhs; rw [← List.map_id (bothF f g v0 v0)]
  refine List.map_congr_left (fun it hit => ?_)
  obtain ⟨a, b⟩ := h3 it hit
  obtain ⟨t, u, v⟩ := it
  simp only at a b
  simp [atF_P, ← a, ← b]
end Go.Proofs.YtglekfgoadehbaaDoor.V
end
section
set_option linter.unusedSimpArgs false
set_option linter.unusedVariables false
/- calc's functions are the document's: plain. -/
namespace Go.Proofs.YtglekfgoadehbaaDoor.V
open Go Go.Proofs Go.Proofs.YtglekfgoadehbaaDoor.SP
theorem inR_iff (n : Int) : inR n = true ↔ -1125899906842624 ≤ n ∧ n ≤ 1125899906842624 := by unfold inR; simp
theorem mayV_iff (v : Vec) : mayV v = true ↔ (-1125899906842624 ≤ v.m ∧ v.m ≤ 1125899906842624) ∧ (-1125899906842624 ≤ v.c ∧ v.c ≤ 1125899906842624) := by
  unfold mayV; rw [Bool.and_eq_true, inR_iff, inR_iff]
theorem wr_id {n : Int} (h1 : -9223372036854775808 ≤ n) (h2 : n ≤ 9223372036854775807) : wr n = n := wrap_i64 n h1 h2
theorem atF_may {f : List Seg} (h : ∀ x ∈ f, inSeg x = true) (t : Int) : mayV (atF f t) = true := by
  unfold atF
  have : ∀ (l : List Seg) (v : Vec), (∀ x ∈ l, inSeg x = true) → mayV v = true → mayV (l.foldl (fun v x => if x.t ≤ t then x.v else v) v) = true := by
    intro l
    induction l with
    | nil => intro v _ hv; exact hv
    | cons x l ih =>
      intro v hl hv
      rw [List.foldl_cons]
      refine ih _ (fun y hy => hl y (by simp [hy])) ?_
      split
      · have := hl x (by simp)
        unfold inSeg at this
        rw [Bool.and_eq_true] at this
        exact this.2
      · exact hv
  exact this f v0 h rfl
theorem told1_all (x : Vec) (l : List Vec) (h : ∀ v ∈ l, mayV v = true) : told1 x l = toldF x := by
  unfold told1 toldF
  have : (x :: l).all mayV = mayV x := by
    rw [List.all_cons, List.all_eq_true.2 h, Bool.and_true]
  rw [this]
theorem sub_one (a b : Vec) (ha : mayV a = true) (hb : mayV b = true) : subV a b = oneR 1 a b := by
  have h1 := (mayV_iff a).1 ha
  have h2 := (mayV_iff b).1 hb
  have hn : mayV ⟨wr (-b.m), wr (-b.c)⟩ = true := by
    rw [mayV_iff, wr_id (by omega) (by omega), wr_id (by omega) (by omega)]; simp only; omega
  unfold subV oneR subR addR
  rw [told1_all _ _ (by simp [ha, hb]), if_neg (by omega), if_pos rfl, if_pos hb, if_pos (by rw [ha, hn]; rfl)]
  simp only
  rw [wr_id (n := -b.m) (by omega) (by omega), wr_id (n := -b.c) (by omega) (by omega)]
  rfl
theorem add_one (a b : Vec) (ha : mayV a = true) (hb : mayV b = true) : add2 a b = oneR 0 a b := by
  have h1 := (mayV_iff a).1 ha
  have e : (⟨wr (v0.m + a.m), wr (v0.c + a.c)⟩ : Vec) = a := by
    rw [wr_id (by simp only [v0]; omega) (by simp only [v0]; omega), wr_id (by simp only [v0]; omega) (by simp only [v0]; omega)]
    simp [v0]
  unfold add2 addF oneR addR
  simp only
  rw [e, told1_all a [a] (by simp [ha])]
  have ht : toldF a = (a, 0) := by unfold toldF; rw [if_pos ha]
  rw [ht]
  simp only [if_true]
  unfold addF
  simp only
  rw [told1_all _ [b] (by simp [hb])]
  simp only [ha, hb, Bool.and_self, if_true]
  unfold toldF
  split <;> simp [addF]
theorem oneR_may (w : Int) (a b : Vec) (ha : mayV a = true) (hb : mayV b = true) (h : (oneR w a b).2 = 0) : mayV (oneR w a b).1 = true := by
  have h1 := (mayV_iff a).1 ha
  have h2 := (mayV_iff b).1 hb
  unfold oneR at h ⊢
  split
  · rename_i c
    rw [if_pos c] at h
    unfold addR toldF at h ⊢
    repeat' split
    all_goals simp_all
  · rename_i c
    rw [if_neg c] at h
    split
    · rename_i c2
      rw [if_pos c2] at h
      unfold subR addR toldF at h ⊢
      repeat' split
      all_goals simp_all
    · split
      · rw [mayV_iff]; simp only [minV]; omega
      · rw [mayV_iff]; simp only [maxV]; omega
/-! ### Values one behind the other -/
def withs (h : Int → Vec) (ts : List Int) (acc : List Seg) : List Seg := ts.foldl (fun f t => withF f t (h t)) acc
theorem lastW_snoc (f : List Seg) (x : Seg) : lastW (f ++ [x]) = x.v := by simp [lastW]
theorem canon_snoc : ∀ (f : List Seg) (l : Vec) (x : Seg), Canon f l → (∀ y ∈ f, y.t < x.t) → ¬ x.v = ((f.getLast?.map (·.v)).getD l) → Canon (f ++ [x]) l
  | [], l, x, _, _, h => ⟨by simpa using h, by simp, trivial⟩
  | y :: f, l, x, hf, ht, h => by
    refine ⟨hf.1, fun z hz => ?_, canon_snoc f y.v x hf.2.2 (fun z hz => ht z (by simp [hz])) ?_⟩
    · rcases List.mem_append.1 hz with hz | hz
      · exact hf.2.1 z hz
      · rw [List.mem_singleton.1 hz]; exact ht y (by simp)
    · cases f with
      | nil => simpa using h
      | cons z f =>
        obtain ⟨w, hw⟩ : ∃ w, (z :: f).getLast? = some w := ⟨_, List.getLast?_eq_some_getLast (by simp)⟩
        rw [List.getLast?_cons_cons, hw] at h
        rw [hw]; exact h
theorem with_spec (f : List Seg) (t : Int) (v : Vec) (hc : Canon f v0) (hl : ∀ x ∈ f, x.t < t) :
    Canon (withF f t v) v0 ∧ (∀ x ∈ withF f t v, x.t ≤ t) ∧ (∀ x ∈ withF f t v, x ∈ f ∨ x = ⟨t, v⟩) ∧ ∀ u, atF (withF f t v) u = if t ≤ u then v else atF f u := by
  have hat : ∀ u, t ≤ u → atF f u = lastW f := by
    intro u hu
    have : ∀ (l : List Seg) (v : Vec), (∀ x ∈ l, x.t < t) → l.foldl (fun v x => if x.t ≤ u then x.v else v) v = (l.getLast?.map (·.v)).getD v := by
      intro l
      induction l with
      | nil => intro v _; rfl
      | cons x l ih =>
        intro v hx
        rw [List.foldl_cons, if_pos (by have := hx x (by simp); omega), ih _ (fun y hy => hx y (by simp [hy]))]
        cases l with
        | nil => rfl
        | cons y l =>
          obtain ⟨w, hw⟩ : ∃ w, (y :: l).getLast? = some w := ⟨_, List.getLast?_eq_some_getLast (by simp)⟩
          rw [List.getLast?_cons_cons, hw]; rfl
    exact this f v0 hl
  unfold withF
  split
  · rename_i h
    refine ⟨hc, fun x hx => by have := hl x hx; omega, fun x hx => .inl hx, fun u => ?_⟩
    split
    · rename_i hu; rw [hat u hu, h]
    · rfl
  · rename_i h
    refine ⟨canon_snoc f v0 _ hc hl h, fun x hx => ?_, fun x hx => ?_, fun u => ?_⟩
    · rcases List.mem_append.1 hx with hx | hx
      · have := hl x hx; omega
      · rw [List.mem_singleton.1 hx]; exact Int.le_refl _
    · rcases List.mem_append.1 hx with hx | hx
      · exact .inl hx
      · exact .inr (List.mem_singleton.1 hx)
    · rw [atF_snoc]
def lastH (h : Int → Vec) (ts : List Int) (d : Vec) (u : Int) : Vec := ts.foldl (fun v t => if t ≤ u then h t else v) d
theorem withs_spec (h : Int → Vec) : ∀ (ts : List Int) (acc : List Seg), ts.Pairwise (· < ·) → Canon acc v0 → (∀ x ∈ acc, ∀ t ∈ ts, x.t < t) →
    Canon (withs h ts acc) v0 ∧ (∀ x ∈ withs h ts acc, x ∈ acc ∨ ∃ t ∈ ts, x = ⟨t, h t⟩) ∧ ∀ u, atF (withs h ts acc) u = lastH h ts (atF acc u) u
  | [], acc, _, hc, _ => ⟨hc, fun x hx => .inl hx, fun u => rfl⟩
  | t :: ts, acc, hu, hc, hl => by
    have hu2 := List.pairwise_cons.1 hu
    obtain ⟨c1, c2, c3, c4⟩ := with_spec acc t (h t) hc (fun x hx => hl x hx t (by simp))
    obtain ⟨d1, d2, d3⟩ := withs_spec h ts (withF acc t (h t)) hu2.2 c1 (fun x hx s hs => by have := c2 x hx; have := hu2.1 s hs; omega)
    refine ⟨d1, fun x hx => ?_, fun u => ?_⟩
    · rcases d2 x hx with hx | ⟨s, hs, e⟩
      · rcases c3 x hx with hx | e
        · exact .inl hx
        · exact .inr ⟨t, by simp, e⟩
      · exact .inr ⟨s, by simp [hs], e⟩
    · have := d3 u
      rw [c4] at this
      exact this
theorem lastH_at (h : Int → Vec) : ∀ (ts : List Int) (d : Vec) (u : Int), ts.Pairwise (· < ·) → (lastH h ts d u = d ∧ ∀ t ∈ ts, u < t) ∨ ∃ s ∈ ts, s ≤ u ∧ lastH h ts d u = h s ∧ ∀ t ∈ ts, t ≤ u → t ≤ s
  | [], d, u, _ => .inl ⟨rfl, by simp⟩
  | t :: ts, d, u, hu => by
    have hu2 := List.pairwise_cons.1 hu
    by_cases c : t ≤ u
    · rcases lastH_at h ts (h t) u hu2.2 with ⟨e, hn⟩ | ⟨s, hs, h1, h2, h3⟩
      · refine .inr ⟨t, by simp, c, ?_, fun z hz hzu => ?_⟩
        · unfold lastH; rw [List.foldl_cons, if_pos c]; exact e
        · rcases List.mem_cons.1 hz with rfl | hz
          · exact Int.le_refl _
          · have := hn z hz; omega
      · refine .inr ⟨s, by simp [hs], h1, ?_, fun z hz hzu => ?_⟩
        · unfold lastH; rw [List.foldl_cons, if_pos c]; exact h2
        · rcases List.mem_cons.1 hz with rfl | hz
          · have := hu2.1 s hs; omega
          · exact h3 z hz hzu
    · refine .inl ⟨?_, fun z hz => ?_⟩
      · have : ∀ (l : List Int), (∀ z ∈ l, u < z) → ∀ d, lastH h l d u = d := by
          intro l
          induction l with
          | nil => intro _ d; rfl
          | cons z l ih => intro hz d; unfold lastH; rw [List.foldl_cons, if_neg (by have := hz z (by simp); omega)]; exact ih (fun y hy => hz y (by simp [hy])) d
        exact this (t :: ts) (fun z hz => by rcases List.mem_cons.1 hz with rfl | hz; omega; have := hu2.1 z hz; omega) d
      · rcases List.mem_cons.1 hz with rfl | hz
        · omega
        · have := hu2.1 z hz; omega
theorem atF_between (f : List Seg) (s u : Int) (hsu : s ≤ u) (h : ∀ x ∈ f, ¬ (s < x.t ∧ x.t ≤ u)) : atF f u = atF f s := by
  unfold atF
  have : ∀ (l : List Seg), (∀ x ∈ l, ¬ (s < x.t ∧ x.t ≤ u)) → ∀ v, l.foldl (fun v x => if x.t ≤ u then x.v else v) v = l.foldl (fun v x => if x.t ≤ s then x.v else v) v := by
    intro l
    induction l with
    | nil => intro _ v; rfl
    | cons x l ih =>
      intro hx v
      have h1 := hx x (by simp)
      rw [List.foldl_cons, List.foldl_cons]
      have e : (if x.t ≤ u then x.v else v) = (if x.t ≤ s then x.v else v) := by
        by_cases c : x.t ≤ s
        · rw [if_pos c, if_pos (by omega)]
        · rw [if_neg c, if_neg (by omega)]
      rw [e]
      exact ih (fun y hy => hx y (by simp [hy])) _
  exact this f h v0
theorem atF_early (f : List Seg) (u : Int) (h : ∀ x ∈ f, u < x.t) : atF f u = v0 := atP_late v0 f u h
/-! ### The document's function of two -/
theorem doF_ok (w : Int) (f g : List Seg) : ∀ (ts : List Int) (acc : List Seg), (∀ t ∈ ts, (oneR w (atF f t) (atF g t)).2 = 0) → doF w f g ts acc = (withs (fun t => (oneR w (atF f t) (atF g t)).1) ts acc, 0)
  | [], acc, _ => rfl
  | t :: ts, acc, h => by
    unfold doF
    rw [if_pos (h t (by simp)), doF_ok w f g ts _ (fun s hs => h s (by simp [hs]))]
    rfl
theorem doF_bad (w : Int) (f g : List Seg) : ∀ (ts : List Int) (acc : List Seg), (∃ t ∈ ts, ¬ (oneR w (atF f t) (atF g t)).2 = 0) → doF w f g ts acc = ([], 10)
  | [], acc, h => by obtain ⟨t, ht, _⟩ := h; cases ht
  | t :: ts, acc, ⟨s, hs, he⟩ => by
    unfold doF
    split
    · rename_i h0
      refine doF_bad w f g ts _ ⟨s, ?_, he⟩
      rcases List.mem_cons.1 hs with rfl | hs
      · exact absurd h0 he
      · exact hs
    · rfl
theorem one_v0 (w : Int) : oneR w v0 v0 = (v0, 0) := by
  unfold oneR
  split
  · decide
  · split
    · decide
    · split <;> decide
theorem doR_law (w : Int) (f g : List Seg) (hf : mayF f = true) (hg : mayF g = true) :
    ((∀ t, (oneR w (atF f t) (atF g t)).2 = 0) ∧ (doR w f g).2 = 0 ∧ mayF (doR w f g).1 = true ∧ ∀ t, atF (doR w f g).1 t = (oneR w (atF f t) (atF g t)).1) ∨
    ((∃ t, ¬ (oneR w (atF f t) (atF g t)).2 = 0) ∧ doR w f g = ([], 10)) := by
  obtain ⟨cf, sf⟩ := (mayF_iff f).1 hf
  obtain ⟨cg, sg⟩ := (mayF_iff g).1 hg
  have hts := timesF_up (f.map (·.t) ++ g.map (·.t))
  have hmem : ∀ t, t ∈ timesF (f.map (·.t) ++ g.map (·.t)) ↔ (∃ x ∈ f, x.t = t) ∨ ∃ x ∈ g, x.t = t := fun t => by
    rw [mem_timesF, List.mem_append, List.mem_map, List.mem_map]
  obtain ⟨ts, hts0⟩ : ∃ ts, timesF (f.map (·.t) ++ g.map (·.t)) = ts := ⟨_, rfl⟩
  rw [hts0] at hts
  simp only [hts0] at hmem
  have hdo : doR w f g = doF w f g ts [] := by unfold doR; rw [hf, hg, hts0]; rfl
  -- at any time, as at the last time ahead of it
  have key : ∀ u, (atF f u = v0 ∧ atF g u = v0 ∧ ∀ t ∈ ts, u < t) ∨ ∃ s ∈ ts, s ≤ u ∧ atF f u = atF f s ∧ atF g u = atF g s ∧ ∀ t ∈ ts, t ≤ u → t ≤ s := fun u => by
    rcases lastH_at (fun _ => v0) ts v0 u hts with ⟨_, h⟩ | ⟨s, hs, h1, _, h2⟩
    · exact .inl ⟨atF_early f u (fun x hx => h x.t ((hmem _).2 (.inl ⟨x, hx, rfl⟩))), atF_early g u (fun x hx => h x.t ((hmem _).2 (.inr ⟨x, hx, rfl⟩))), h⟩
    · refine .inr ⟨s, hs, h1, atF_between f s u h1 (fun x hx hc => ?_), atF_between g s u h1 (fun x hx hc => ?_), h2⟩
      · have := h2 x.t ((hmem _).2 (.inl ⟨x, hx, rfl⟩)) hc.2; omega
      · have := h2 x.t ((hmem _).2 (.inr ⟨x, hx, rfl⟩)) hc.2; omega
  by_cases hall : ∀ t ∈ ts, (oneR w (atF f t) (atF g t)).2 = 0
  · left
    have hok := doF_ok w f g ts [] hall
    obtain ⟨d1, d2, d3⟩ := withs_spec (fun t => (oneR w (atF f t) (atF g t)).1) ts [] hts trivial (by simp)
    rw [hdo, hok]
    refine ⟨fun u => ?_, rfl, (mayF_iff _).2 ⟨d1, fun x hx => ?_⟩, fun u => ?_⟩
    · rcases key u with ⟨e1, e2, _⟩ | ⟨s, hs, _, e1, e2, _⟩
      · rw [e1, e2, one_v0]
      · rw [e1, e2]; exact hall s hs
    · rcases d2 x hx with h | ⟨t, ht, rfl⟩
      · cases h
      · have hm := oneR_may w _ _ (atF_may sf t) (atF_may sg t) (hall t ht)
        have hin : inR t = true := by
          rcases (hmem t).1 ht with ⟨y, hy, rfl⟩ | ⟨y, hy, rfl⟩
          · have := sf y hy; unfold inSeg at this; rw [Bool.and_eq_true] at this; exact this.1
          · have := sg y hy; unfold inSeg at this; rw [Bool.and_eq_true] at this; exact this.1
        unfold inSeg; rw [hin, hm]; rfl
    · show atF (withs (fun t => (oneR w (atF f t) (atF g t)).1) ts []) u = _
      rw [d3 u]
      rcases lastH_at (fun t => (oneR w (atF f t) (atF g t)).1) ts (atF [] u) u hts with ⟨e, hn⟩ | ⟨s, hs, h1, h2, h3⟩
      · rw [e]
        rcases key u with ⟨e1, e2, _⟩ | ⟨s, hs, h4, _⟩
        · rw [e1, e2, one_v0]; rfl
        · have := hn s hs; omega
      · rw [h2]
        rcases key u with ⟨_, _, hn⟩ | ⟨s', hs', h4, e1, e2, h5⟩
        · have := hn s hs; omega
        · have a := h3 s' hs' h4
          have b := h5 s hs h1
          have : s = s' := by omega
          subst this
          simp only [e1, e2]
  · right
    have hex : ∃ t ∈ ts, ¬ (oneR w (atF f t) (atF g t)).2 = 0 := by
      rcases Classical.em (∃ t ∈ ts, ¬ (oneR w (atF f t) (atF g t)).2 = 0) with h | h
      · exact h
      · exact absurd (fun t ht => Classical.byContradiction fun hn => h ⟨t, ht, hn⟩) hall
    obtain ⟨t, ht, he⟩ := hex
    exact ⟨⟨t, he⟩, by rw [hdo]; exact doF_bad w f g ts [] ⟨t, ht, he⟩⟩
/-! ### The program's way -/
theorem srt_self {xs : List Seg} (h : (xs.map (·.t)).Pairwise (· < ·)) : sortS (ltB cmpS) xs = xs := by
  refine (sortS_of swoS ?_ (Stb.refl _)).symm
  rw [List.pairwise_map] at h
  exact h.imp (fun {a b} hab => by rw [ltS]; simp; omega)
theorem fold_withs : ∀ (xs acc : List Seg), (xs.map (·.t)).Pairwise (· < ·) → foldB xs acc (lastW acc) = xs.foldl (fun f x => withF f x.t x.v) acc
  | [], acc, _ => rfl
  | x :: xs, acc, h => by
    rw [List.map_cons, List.pairwise_cons] at h
    have hn : nextB x xs = true := by
      cases xs with
      | nil => rfl
      | cons y xs => have := h.1 y.t (by simp); simp [nextB]; omega
    rw [foldB, if_pos hn, List.foldl_cons]
    have e : (putF acc (lastW acc) x).1 = withF acc x.t x.v ∧ (putF acc (lastW acc) x).2 = lastW (withF acc x.t x.v) := by
      unfold putF withF
      split
      · exact ⟨rfl, rfl⟩
      · exact ⟨by simp, (lastW_snoc _ _).symm⟩
    rw [e.1, e.2]
    exact fold_withs xs _ h.2
theorem rawJ_ok (jf : Vec → Vec → Vec × Int) : ∀ (L : List (Int × Vec × Vec)) (acc : List Seg), (∀ it ∈ L, (jf it.2.1 it.2.2).2 = 0) → rawJ jf L acc = (acc ++ L.map (fun it => ⟨it.1, (jf it.2.1 it.2.2).1⟩), 0)
  | [], acc, _ => by simp [rawJ]
  | it :: L, acc, h => by
    unfold rawJ
    rw [if_pos (h it (by simp)), rawJ_ok jf L _ (fun x hx => h x (by simp [hx]))]
    simp
theorem rawJ_bad (jf : Vec → Vec → Vec × Int) (he : ∀ a b, (jf a b).2 = 0 ∨ (jf a b).2 = 10) : ∀ (L : List (Int × Vec × Vec)) (acc : List Seg), (∃ it ∈ L, ¬ (jf it.2.1 it.2.2).2 = 0) → rawJ jf L acc = ([], 10)
  | [], acc, h => by obtain ⟨t, ht, _⟩ := h; cases ht
  | it :: L, acc, ⟨s, hs, h0⟩ => by
    unfold rawJ
    split
    · rename_i h1
      refine rawJ_bad jf he L _ ⟨s, ?_, h0⟩
      rcases List.mem_cons.1 hs with rfl | hs
      · exact absurd h1 h0
      · exact hs
    · rename_i h1
      rw [(he _ _).resolve_left h1]
theorem made_do (w : Int) (jf : Vec → Vec → Vec × Int) (hj : ∀ a b, mayV a = true → mayV b = true → jf a b = oneR w a b) (he : ∀ a b, (jf a b).2 = 0 ∨ (jf a b).2 = 10) (f g : List Seg) : madeF jf f g = doR w f g := by
  by_cases hfg : (mayF f && mayF g) = true
  case neg =>
    unfold madeF doR
    rw [if_neg hfg, if_neg hfg]
  rw [Bool.and_eq_true] at hfg
  obtain ⟨hf, hg⟩ := hfg
  obtain ⟨cf, sf⟩ := (mayF_iff f).1 hf
  obtain ⟨cg, sg⟩ := (mayF_iff g).1 hg
  have hb := both_times f g cf.up cg.up
  have hts := timesF_up (f.map (·.t) ++ g.map (·.t))
  have hmem : ∀ t, t ∈ timesF (f.map (·.t) ++ g.map (·.t)) → (∃ x ∈ f, x.t = t) ∨ ∃ x ∈ g, x.t = t := fun t => by
    rw [mem_timesF, List.mem_append, List.mem_map, List.mem_map]; exact id
  obtain ⟨ts, hts0⟩ : ∃ ts, timesF (f.map (·.t) ++ g.map (·.t)) = ts := ⟨_, rfl⟩
  rw [hts0] at hb hts
  simp only [hts0] at hmem
  have hjt : ∀ t, jf (atF f t) (atF g t) = oneR w (atF f t) (atF g t) := fun t => hj _ _ (atF_may sf t) (atF_may sg t)
  have hdo : doR w f g = doF w f g ts [] := by unfold doR; rw [hf, hg, hts0]; rfl
  have hmade : madeF jf f g = if (rawJ jf (bothF f g v0 v0) []).2 = 0 then ofF (rawJ jf (bothF f g v0 v0) []).1 else ([], (rawJ jf (bothF f g v0 v0) []).2) := by unfold madeF; rw [hf, hg]; rfl
  rw [hdo, hmade, hb]
  by_cases hall : ∀ t ∈ ts, (oneR w (atF f t) (atF g t)).2 = 0
  · rw [rawJ_ok jf _ [] (fun it hit => by obtain ⟨t, ht, rfl⟩ := List.mem_map.1 hit; rw [show (jf (atF f t) (atF g t)).2 = _ from by rw [hjt]]; exact hall t ht), if_pos rfl, doF_ok w f g ts [] hall]
    simp only [List.nil_append, List.map_map]
    have e : (ts.map ((fun it : Int × Vec × Vec => (⟨it.1, (jf it.2.1 it.2.2).1⟩ : Seg)) ∘ fun t => (t, atF f t, atF g t))) = ts.map (fun t => (⟨t, (oneR w (atF f t) (atF g t)).1⟩ : Seg)) := List.map_congr_left (fun t _ => by simp [hjt])
    rw [e]
    have hup : ((ts.map (fun t => (⟨t, (oneR w (atF f t) (atF g t)).1⟩ : Seg))).map (·.t)).Pairwise (· < ·) := by
      rw [List.map_map]
      have : ((fun x : Seg => x.t) ∘ fun t => (⟨t, (oneR w (atF f t) (atF g t)).1⟩ : Seg)) = id := rfl
      rw [this, List.map_id]; exact hts
    have hin : (ts.map (fun t => (⟨t, (oneR w (atF f t) (atF g t)).1⟩ : Seg))).all inSeg = true := by
      rw [List.all_eq_true]
      intro x hx
      obtain ⟨t, ht, rfl⟩ := List.mem_map.1 hx
      have hm := oneR_may w _ _ (atF_may sf t) (atF_may sg t) (hall t ht)
      have hr : inR t = true := by
        rcases hmem t ht with ⟨y, hy, rfl⟩ | ⟨y, hy, rfl⟩
        · have := sf y hy; unfold inSeg at this; rw [Bool.and_eq_true] at this; exact this.1
        · have := sg y hy; unfold inSeg at this; rw [Bool.and_eq_true] at this; exact this.1
      unfold inSeg; rw [hr, hm]; rfl
    unfold ofF
    rw [if_pos hin]
    have hfold : foldF (ts.map (fun t => (⟨t, (oneR w (atF f t) (atF g t)).1⟩ : Seg))) = withs (fun t => (oneR w (atF f t) (atF g t)).1) ts [] := by
      unfold foldF
      rw [srt_self hup]
      have := fold_withs (ts.map (fun t => (⟨t, (oneR w (atF f t) (atF g t)).1⟩ : Seg))) [] hup
      rw [show lastW [] = v0 from rfl] at this
      rw [this, List.foldl_map]; rfl
    rw [hfold]
  · have hex : ∃ t ∈ ts, ¬ (oneR w (atF f t) (atF g t)).2 = 0 := by
      rcases Classical.em (∃ t ∈ ts, ¬ (oneR w (atF f t) (atF g t)).2 = 0) with h | h
      · exact h
      · exact absurd (fun t ht => Classical.byContradiction fun hn => h ⟨t, ht, hn⟩) hall
    obtain ⟨t, ht, he0⟩ := hex
    rw [rawJ_bad jf he _ [] ⟨(t, atF f t, atF g t), List.mem_map.2 ⟨t, ht, rfl⟩, by simp only; rw [hjt]; exact he0⟩, if_neg (by decide), doF_bad w f g ts [] ⟨t, ht, he0⟩]
end Go.Proofs.YtglekfgoadehbaaDoor.V
end
section
set_option linter.unusedSimpArgs false
set_option linter.unusedVariables false
/- calc.LE, Add are the document's; what being at most says: plain. -/
namespace Go.Proofs.YtglekfgoadehbaaDoor.V
open Go Go.Proofs Go.Proofs.YtglekfgoadehbaaDoor.SP
theorem sub_do (f g : List Seg) : madeF subV f g = doR 1 f g := made_do 1 subV sub_one (fun a b => by unfold subV told1; split <;> simp) f g
theorem told1_err (x : Vec) (l : List Vec) : (told1 x l).2 = 0 ∨ (told1 x l).2 = 10 := by unfold told1; split <;> simp
theorem addF_err : ∀ (l : List Vec) (s : Vec), (addF l s).2 = 0 ∨ (addF l s).2 = 10
  | [], s => .inl rfl
  | v :: r, s => by
    unfold addF
    simp only
    split
    · exact addF_err r _
    · rename_i h; exact .inr ((told1_err _ _).resolve_left h)
theorem add2_err (a b : Vec) : (add2 a b).2 = 0 ∨ (add2 a b).2 = 10 := addF_err _ _
theorem add_do (f g : List Seg) : madeF add2 f g = doR 0 f g := made_do 0 add2 add_one add2_err f g
theorem min_do (f g : List Seg) : madeF (fun a b => (minV a b, 0)) f g = doR 2 f g := made_do 2 _ (fun a b _ _ => by unfold oneR; simp) (fun a b => .inl rfl) f g
theorem max_do (f g : List Seg) : madeF (fun a b => (maxV a b, 0)) f g = doR 3 f g := made_do 3 _ (fun a b _ _ => by unfold oneR; simp) (fun a b => .inl rfl) f g
/-! ### Being at most -/
theorem leR_law (f g : List Seg) (a : Int) (hf : mayF f = true) (hg : mayF g = true) :
    ((∀ t, a ≤ t → leV (atF f t) (atF g t) = true) ∧ leR f g a = (0, true, 0)) ∨
    ∃ u, a ≤ u ∧ leV (atF f u) (atF g u) = false ∧ (∀ t, a ≤ t → t < u → leV (atF f t) (atF g t) = true) ∧ leR f g a = (u, false, 0) := by
  have hts0 := timesF_up (f.map (·.t) ++ g.map (·.t))
  have hR : leR f g a = leFind (insR (timesF (f.map (·.t) ++ g.map (·.t))) a) (leHit f g a) := by
    unfold leR; rw [hf, hg, timesF_snoc, timesF_self hts0, insT_R]; rfl
  have hus := up_insR _ a hts0
  have hmem : ∀ t, t ∈ insR (timesF (f.map (·.t) ++ g.map (·.t))) a ↔ t = a ∨ ((∃ x ∈ f, x.t = t) ∨ ∃ x ∈ g, x.t = t) := fun t => by
    rw [mem_insR, mem_timesF, List.mem_append, List.mem_map, List.mem_map]
  obtain ⟨us, hu⟩ : ∃ us, insR (timesF (f.map (·.t) ++ g.map (·.t))) a = us := ⟨_, rfl⟩
  rw [hu] at hR hus
  simp only [hu] at hmem
  have key : ∀ u, a ≤ u → ∃ s ∈ us, a ≤ s ∧ s ≤ u ∧ atF f u = atF f s ∧ atF g u = atF g s := fun u hau => by
    rcases lastH_at (fun _ => v0) us v0 u hus with ⟨_, h⟩ | ⟨s, hs, h1, _, h2⟩
    · have := h a ((hmem a).2 (.inl rfl)); omega
    · refine ⟨s, hs, h2 a ((hmem a).2 (.inl rfl)) hau, h1, atF_between f s u h1 (fun x hx hc => ?_), atF_between g s u h1 (fun x hx hc => ?_)⟩
      · have := h2 x.t ((hmem _).2 (.inr (.inl ⟨x, hx, rfl⟩))) hc.2; omega
      · have := h2 x.t ((hmem _).2 (.inr (.inr ⟨x, hx, rfl⟩))) hc.2; omega
  cases hfind : us.find? (leHit f g a) with
  | none =>
    left
    refine ⟨fun t ht => ?_, by rw [hR, leFind, hfind]⟩
    obtain ⟨s, hs, h1, _, e1, e2⟩ := key t ht
    have := List.find?_eq_none.1 hfind s hs
    unfold leHit at this
    rw [decide_eq_true h1] at this
    rw [e1, e2]
    simpa using this
  | some u =>
    right
    have h1 := List.find?_some hfind
    unfold leHit at h1
    rw [Bool.and_eq_true, decide_eq_true_eq, Bool.not_eq_true'] at h1
    refine ⟨u, h1.1, h1.2, fun t ht htu => ?_, by rw [hR, leFind, hfind]⟩
    obtain ⟨s, hs, h3, h4, e1, e2⟩ := key t ht
    rw [e1, e2]
    rw [List.find?_eq_some_iff_getElem] at hfind
    obtain ⟨_, i, hi, hiu, hno⟩ := hfind
    obtain ⟨j, hj, hjs⟩ := List.getElem_of_mem hs
    have hji : j < i := by
      rcases Nat.lt_or_ge j i with h | h
      · exact h
      · exfalso
        rcases Nat.lt_or_ge i j with h5 | h5
        · have := List.pairwise_iff_getElem.1 hus i j hi hj h5
          rw [hiu, hjs] at this; omega
        · have : i = j := by omega
          subst this; rw [hiu] at hjs; omega
    have := hno j hji
    rw [hjs] at this
    unfold leHit at this
    rw [decide_eq_true h3] at this
    simpa using this
end Go.Proofs.YtglekfgoadehbaaDoor.V
end
section
set_option linter.unusedSimpArgs false
set_option linter.unusedVariables false
/- Sums and differences, one against the other: plain. -/
namespace Go.Proofs.YtglekfgoadehbaaDoor.V
open Go Go.Proofs Go.Proofs.YtglekfgoadehbaaDoor.SP
theorem may_canon {f : List Seg} (h : mayF f = true) : Canon f v0 := ((mayF_iff f).1 h).1
theorem may_at {f : List Seg} (h : mayF f = true) (t : Int) : mayV (atF f t) = true := atF_may ((mayF_iff f).1 h).2 t
theorem may_ext {f g : List Seg} (hf : mayF f = true) (hg : mayF g = true) (h : ∀ t, atF f t = atF g t) : f = g := canon_ext f g (may_canon hf) (may_canon hg) h
theorem pair_eq {α : Type} {p : α × Int} {a : α} {b : Int} (h1 : p.1 = a) (h2 : p.2 = b) : p = (a, b) := by cases p; simp_all
theorem doR_is (w : Int) (f g r : List Seg) (hf : mayF f = true) (hg : mayF g = true) (hr : mayF r = true) (h : ∀ t, oneR w (atF f t) (atF g t) = (atF r t, 0)) : doR w f g = (r, 0) := by
  rcases doR_law w f g hf hg with ⟨_, h2, h3, h4⟩ | ⟨⟨t, ht⟩, _⟩
  · exact pair_eq (may_ext h3 hr (fun t => by rw [h4 t, h t])) h2
  · rw [h t] at ht; exact absurd rfl ht
theorem doR_may {w : Int} {f g : List Seg} (h : (doR w f g).2 = 0) : mayF f = true ∧ mayF g = true ∧ mayF (doR w f g).1 = true ∧ ∀ t, oneR w (atF f t) (atF g t) = (atF (doR w f g).1 t, 0) := by
  by_cases hm : (mayF f && mayF g) = true
  · have h2 := hm
    rw [Bool.and_eq_true] at h2
    rcases doR_law w f g h2.1 h2.2 with ⟨a1, _, a3, a4⟩ | ⟨_, h3⟩
    · exact ⟨h2.1, h2.2, a3, fun t => pair_eq (a4 t).symm (a1 t)⟩
    · rw [h3] at h; cases h
  · unfold doR at h; rw [if_neg hm] at h; cases h
theorem toldF_may {v : Vec} (h : mayV v = true) : toldF v = (v, 0) := by unfold toldF; rw [if_pos h]
theorem add_val (a b : Vec) (ha : mayV a = true) (hb : mayV b = true) : oneR 0 a b = toldF ⟨a.m + b.m, a.c + b.c⟩ := by
  have h1 := (mayV_iff a).1 ha
  have h2 := (mayV_iff b).1 hb
  unfold oneR addR
  rw [if_pos rfl, if_pos (by rw [ha, hb]; rfl), wr_id (by omega) (by omega), wr_id (by omega) (by omega)]
theorem sub_val (a b : Vec) (ha : mayV a = true) (hb : mayV b = true) : oneR 1 a b = toldF ⟨a.m - b.m, a.c - b.c⟩ := by
  have h1 := (mayV_iff a).1 ha
  have h2 := (mayV_iff b).1 hb
  rw [← sub_one a b ha hb]
  unfold subV
  rw [told1_all _ _ (by simp [ha, hb]), wr_id (by omega) (by omega), wr_id (by omega) (by omega)]
theorem min_val (a b : Vec) : oneR 2 a b = (minV a b, 0) := by unfold oneR; simp
theorem max_val (a b : Vec) : oneR 3 a b = (maxV a b, 0) := by unfold oneR; simp
theorem told_ok {v u : Vec} (h : toldF v = (u, 0)) : v = u ∧ mayV u = true := by
  unfold toldF at h
  split at h
  · rename_i hv; cases h; exact ⟨rfl, hv⟩
  · cases h
theorem vec_eta (v : Vec) : (⟨v.m, v.c⟩ : Vec) = v := by cases v; rfl
theorem min_ok (f g : List Seg) (hf : mayF f = true) (hg : mayF g = true) : (doR 2 f g).2 = 0 ∧ mayF (doR 2 f g).1 = true ∧ ∀ t, atF (doR 2 f g).1 t = minV (atF f t) (atF g t) := by
  rcases doR_law 2 f g hf hg with ⟨_, h2, h3, h4⟩ | ⟨⟨t, ht⟩, _⟩
  · exact ⟨h2, h3, fun t => by rw [h4 t, min_val]⟩
  · rw [min_val] at ht; exact absurd rfl ht
theorem max_ok (f g : List Seg) (hf : mayF f = true) (hg : mayF g = true) : (doR 3 f g).2 = 0 ∧ mayF (doR 3 f g).1 = true ∧ ∀ t, atF (doR 3 f g).1 t = maxV (atF f t) (atF g t) := by
  rcases doR_law 3 f g hf hg with ⟨_, h2, h3, h4⟩ | ⟨⟨t, ht⟩, _⟩
  · exact ⟨h2, h3, fun t => by rw [h4 t, max_val]⟩
  · rw [max_val] at ht; exact absurd rfl ht
/-! ### At most -/
theorem leR_yes (f g : List Seg) (a : Int) (hf : mayF f = true) (hg : mayF g = true) (h : ∀ t, a ≤ t → leV (atF f t) (atF g t) = true) : leR f g a = (0, true, 0) := by
  rcases leR_law f g a hf hg with ⟨_, h2⟩ | ⟨u, h1, h2, _⟩
  · exact h2
  · rw [h u h1] at h2; cases h2
end Go.Proofs.YtglekfgoadehbaaDoor.V
end
section
set_option linter.unusedSimpArgs false
set_option linter.unusedVariables false
/- Begins, in plain Lean: what the package slot's functions compute. -/
namespace Go.Proofs.YtglekfgoadehbaaDoor.V
open Go Go.Proofs
def badD (x : Leg) : Bool := decide (x.d < 1) || decide (4096 < x.d)
def farF (t : Int) : Bool := decide (t < -1099511627776) || decide (1099511627776 < t)
def leW (a b : Vec) : Bool := decide (a.m ≤ b.m) && decide (a.c ≤ b.c)
def cutW (x w : Vec) : List Vec := (if w.m < min w.c x.m then [⟨w.m, min w.c x.m⟩] else []) ++ (if max w.m x.c < w.c then [⟨max w.m x.c, w.c⟩] else [])
def withoutF : List Vec → Vec → List Vec
  | [], _ => []
  | w :: r, x => cutW x w ++ withoutF r x
def Rows (lo hi : Int) : List Vec → Prop
  | [] => True
  | w :: r => lo ≤ w.m ∧ w.m < w.c ∧ w.c ≤ hi ∧ Rows w.c hi r
theorem Rows.mono {lo lo' hi : Int} (h : lo' ≤ lo) : ∀ {l : List Vec}, Rows lo hi l → Rows lo' hi l
  | [], _ => trivial
  | w :: r, ⟨a, b⟩ => ⟨by omega, b⟩
theorem Rows.len {hi : Int} : ∀ {l : List Vec} {lo : Int}, Rows lo hi l → lo ≤ hi → (l.length : Int) ≤ hi - lo
  | [], lo, _, h => by simp; omega
  | w :: r, lo, ⟨a, b, c, d⟩, h => by
    have := Rows.len d c
    simp only [List.length_cons]; omega
theorem Rows.app {mid hi : Int} : ∀ {a : List Vec} {lo : Int} {b : List Vec}, Rows lo mid a → Rows mid hi b → lo ≤ mid → mid ≤ hi → Rows lo hi (a ++ b)
  | [], lo, b, _, h, h1, _ => h.mono h1
  | w :: r, lo, b, ⟨a1, a2, a3, a4⟩, h, h1, h2 => ⟨a1, a2, by omega, Rows.app a4 h a3 h2⟩
theorem cutW_rows (x w : Vec) (h : w.m < w.c) (hx : x.m ≤ x.c) : Rows w.m w.c (cutW x w) := by
  simp only [cutW, Int.min_def, Int.max_def]
  (repeat' split) <;> simp only [Rows, List.nil_append, List.cons_append, and_true] <;> omega
theorem Rows.without {x : Vec} (hx : x.m ≤ x.c) {hi : Int} : ∀ {l : List Vec} {lo : Int}, Rows lo hi l → Rows lo hi (withoutF l x)
  | [], _, _ => trivial
  | w :: r, lo, ⟨a, b, c, d⟩ => by
    have h1 : Rows lo w.c (cutW x w) := (cutW_rows x w b hx).mono a
    exact Rows.app h1 (Rows.without hx d) (by omega) c
end Go.Proofs.YtglekfgoadehbaaDoor.V
end
section
set_option linter.unusedSimpArgs false
set_option linter.unusedVariables false
/- Begins of legs that are cut in two, and of legs with one of nothing ahead: plain. -/
namespace Go.Proofs.YtglekfgoadehbaaDoor.V
open Go Go.Proofs
def RowsG (lo hi : Int) : List Vec → Prop
  | [] => True
  | w :: r => lo ≤ w.m ∧ w.m < w.c ∧ w.c ≤ hi ∧ RowsG (w.c + 1) hi r
def inW (w : Vec) (t : Int) : Prop := w.m ≤ t ∧ t < w.c
def memW (l : List Vec) (t : Int) : Prop := ∃ w ∈ l, inW w t
theorem memW_cons (w : Vec) (r : List Vec) (t : Int) : memW (w :: r) t ↔ inW w t ∨ memW r t := by simp [memW]
theorem RowsG.mono {lo lo' hi : Int} (h : lo' ≤ lo) : ∀ {l : List Vec}, RowsG lo hi l → RowsG lo' hi l
  | [], _ => trivial
  | w :: r, ⟨a, b⟩ => ⟨by omega, b⟩
theorem RowsG.rows {hi : Int} : ∀ {l : List Vec} {lo : Int}, RowsG lo hi l → Rows lo hi l
  | [], _, _ => trivial
  | w :: r, _, ⟨a, b, c, d⟩ => ⟨a, b, c, d.rows.mono (by omega)⟩
theorem RowsG.low {hi t : Int} : ∀ {l : List Vec} {lo : Int}, RowsG lo hi l → memW l t → lo ≤ t
  | [], _, _, h => absurd h (by simp [memW])
  | w :: r, lo, ⟨a, b, c, d⟩, h => by
    rcases (memW_cons _ _ _).1 h with h | h
    · have := h.1; omega
    · have := d.low h; omega
theorem RowsG.head {hi t lo : Int} {w : Vec} {r : List Vec} (h : RowsG lo hi (w :: r)) (hm : memW (w :: r) t) : w.m ≤ t := RowsG.low (l := w :: r) (lo := w.m) (hi := hi) ⟨Int.le_refl _, h.2⟩ hm
theorem RowsG.app {mid hi : Int} : ∀ {a : List Vec} {lo : Int} {b : List Vec}, RowsG lo mid a → RowsG (mid + 1) hi b → lo ≤ mid + 1 → mid ≤ hi → RowsG lo hi (a ++ b)
  | [], _, _, _, h, h1, _ => h.mono h1
  | w :: r, lo, b, ⟨a1, a2, a3, a4⟩, h, h1, h2 => ⟨a1, a2, by omega, RowsG.app a4 h (by omega) h2⟩
theorem cutW_G (x w : Vec) (h : w.m < w.c) (hx : x.m < x.c) : RowsG w.m w.c (cutW x w) := by
  simp only [cutW, Int.min_def, Int.max_def]
  (repeat' split) <;> simp only [RowsG, List.nil_append, List.cons_append, and_true] <;> omega
theorem RowsG.without {x : Vec} (hx : x.m < x.c) {hi : Int} : ∀ {l : List Vec} {lo : Int}, RowsG lo hi l → RowsG lo hi (withoutF l x)
  | [], _, _ => trivial
  | w :: r, lo, ⟨a, b, c, d⟩ => RowsG.app ((cutW_G x w b hx).mono a) (RowsG.without hx d) (by omega) c
structure OkB (f : List Seg) (w : Vec) (l : List Leg) : Prop where
  may : mayF f = true
  win : w.m < w.c
  span : w.c - w.m ≤ 4096
  from_ : farF w.m = false
  to_ : farF w.c = false
  vs : l.any (fun x => !mayV x.v) = false
  ds : l.any badD = false
  len : 0 < l.length ∧ l.length ≤ 16
theorem OkB.pos {f : List Seg} {w : Vec} {l : List Leg} (h : OkB f w l) : ∀ x ∈ l, 1 ≤ x.d ∧ x.d ≤ 4096 := fun x hx => by
  have := List.any_eq_false.1 h.ds x hx
  simp [badD] at this
  omega
end Go.Proofs.YtglekfgoadehbaaDoor.V
end
section
set_option linter.unusedSimpArgs false
set_option linter.unusedVariables false
/- Step functions in windows, in plain Lean. -/
namespace Go.Proofs.YtglekfgoadehbaaDoor.V
open Go Go.Proofs
def runsGo (a z : Int) : List Seg → Int → Vec → List (Vec × Int)
  | [], p, u => [(u, z - p)]
  | x :: r, p, u => if x.t ≤ a ∨ z ≤ x.t then runsGo a z r p u else (u, x.t - p) :: runsGo a z r x.t x.v
def runsF (f : List Seg) (a z : Int) : List (Vec × Int) := runsGo a z f a (atF f a)
def insW (a z : Int) (r : List Seg) : List Seg := r.filter fun x => decide (a < x.t) && decide (x.t < z)
theorem runsGo_ins (a z : Int) : ∀ (r : List Seg) (p : Int) (u : Vec), runsGo a z r p u = runsGo a z (insW a z r) p u
  | [], _, _ => rfl
  | x :: r, p, u => by
    unfold insW
    by_cases h : x.t ≤ a ∨ z ≤ x.t
    · rw [List.filter_cons_of_neg (by simp; omega), runsGo, if_pos h]; exact runsGo_ins a z r p u
    · rw [List.filter_cons_of_pos (by simp; omega), runsGo, runsGo, if_neg h, if_neg h]; congr 1; exact runsGo_ins a z r x.t x.v
theorem atP_late2 (v : Vec) : ∀ (f : List Seg) (t : Int), (∀ x ∈ f, t < x.t) → atP v f t = v
  | [], _, _ => rfl
  | x :: r, t, h => by
    have := h x (by simp)
    simp only [atP, List.foldl_cons]
    rw [if_neg (by omega)]
    exact atP_late2 v r t (fun y hy => h y (by simp [hy]))
theorem atP_from (a z : Int) : ∀ (f : List Seg) (v : Vec) (s : Int), (f.map (·.t)).Pairwise (· < ·) → a ≤ s → s < z → atP v f s = atP (atP v f a) (insW a z f) s
  | [], _, _, _, _, _ => rfl
  | x :: r, v, s, hp, h1, h2 => by
    simp only [List.map_cons, List.pairwise_cons, List.mem_map, forall_exists_index, and_imp, forall_apply_eq_imp_iff₂] at hp
    by_cases hx : x.t ≤ a
    · have ih := atP_from a z r x.v s hp.2 h1 h2
      unfold insW
      rw [List.filter_cons_of_neg (by simp; omega)]
      simp only [atP, List.foldl_cons] at ih ⊢
      rw [if_pos (by omega), if_pos hx]
      exact ih
    · have hr : ∀ y ∈ r, a < y.t := fun y hy => by have := hp.1 y hy; omega
      have e : atP v (x :: r) a = v := atP_late2 v _ a (fun y hy => by rcases List.mem_cons.1 hy with rfl | hy; omega; exact hr y hy)
      rw [e]
      have key : ∀ (g : List Seg) (w : Vec), (∀ y ∈ g, a < y.t) → atP w g s = atP w (insW a z g) s := by
        intro g
        induction g with
        | nil => intro _ _; rfl
        | cons y g ih =>
          intro w hg
          have hy := hg y (by simp)
          unfold insW
          by_cases hyz : y.t < z
          · rw [List.filter_cons_of_pos (by simp; omega)]
            simp only [atP, List.foldl_cons]
            exact ih _ (fun q hq => hg q (by simp [hq]))
          · rw [List.filter_cons_of_neg (by simp; omega)]
            simp only [atP, List.foldl_cons]
            rw [if_neg (by omega)]
            exact ih _ (fun q hq => hg q (by simp [hq]))
      exact key _ v (fun y hy => by rcases List.mem_cons.1 hy with rfl | hy; omega; exact hr y hy)
theorem insW_up (a z : Int) {f : List Seg} (h : (f.map (·.t)).Pairwise (· < ·)) : ((insW a z f).map (·.t)).Pairwise (· < ·) ∧ ∀ x ∈ insW a z f, a < x.t ∧ x.t < z := by
  refine ⟨?_, fun x hx => ?_⟩
  · exact h.sublist (List.Sublist.map _ (List.filter_sublist))
  · unfold insW at hx; simp at hx; omega
theorem runs_cover (z : Int) (a : Int) : ∀ (r : List Seg) (p : Int) (u : Vec), (r.map (·.t)).Pairwise (· < ·) → (∀ x ∈ r, a < x.t ∧ x.t < z ∧ p < x.t) → p < z →
    (∀ s, p ≤ s → s < z → ∃ q ∈ runsGo a z r p u, q.1 = atP u r s) ∧ (∀ q ∈ runsGo a z r p u, 0 < q.2 ∧ ∃ s, p ≤ s ∧ s < z ∧ q.1 = atP u r s)
  | [], p, u, _, _, hpz => by
    simp only [runsGo]
    refine ⟨fun s _ _ => ⟨(u, z - p), by simp, rfl⟩, fun q hq => ?_⟩
    simp at hq; subst hq
    exact ⟨by simp only; omega, p, Int.le_refl _, hpz, rfl⟩
  | x :: r, p, u, hp, hx, hpz => by
    simp only [List.map_cons, List.pairwise_cons, List.mem_map, forall_exists_index, and_imp, forall_apply_eq_imp_iff₂] at hp
    obtain ⟨h1, h2, h3⟩ := hx x (by simp)
    obtain ⟨i1, i2⟩ := runs_cover z a r x.t x.v hp.2 (fun y hy => ⟨(hx y (by simp [hy])).1, (hx y (by simp [hy])).2.1, hp.1 y hy⟩) h2
    rw [runsGo, if_neg (by omega)]
    refine ⟨fun s g1 g2 => ?_, fun q hq => ?_⟩
    · by_cases hs : x.t ≤ s
      · obtain ⟨q, hq, e⟩ := i1 s hs g2
        exact ⟨q, by simp [hq], by rw [e]; simp only [atP, List.foldl_cons]; rw [if_pos hs]⟩
      · refine ⟨(u, x.t - p), by simp, ?_⟩
        rw [atP_late2 u _ s (fun y hy => ?_)]
        rcases List.mem_cons.1 hy with rfl | hy
        · omega
        · have := hp.1 y hy; omega
    · rcases List.mem_cons.1 hq with rfl | hq
      · refine ⟨by simp only; omega, p, Int.le_refl _, hpz, ?_⟩
        rw [atP_late2 u _ p (fun y hy => (hx y hy).2.2)]
      · obtain ⟨q0, s, g1, g2, e⟩ := i2 q hq
        exact ⟨q0, s, by omega, g2, by rw [e]; simp only [atP, List.foldl_cons]; rw [if_pos g1]⟩
theorem runsF_law {f : List Seg} (hf : (f.map (·.t)).Pairwise (· < ·)) {a z : Int} (h : a < z) : (∀ s, a ≤ s → s < z → ∃ q ∈ runsF f a z, q.1 = atF f s) ∧ (∀ q ∈ runsF f a z, 0 < q.2 ∧ ∃ s, a ≤ s ∧ s < z ∧ q.1 = atF f s) := by
  unfold runsF
  rw [runsGo_ins]
  obtain ⟨hu, hin⟩ := insW_up a z hf
  obtain ⟨i1, i2⟩ := runs_cover z a (insW a z f) a (atF f a) hu (fun x hx => ⟨(hin x hx).1, (hin x hx).2, (hin x hx).1⟩) h
  have e : ∀ s, a ≤ s → s < z → atP (atF f a) (insW a z f) s = atF f s := fun s g1 g2 => (atP_from a z f v0 s hf g1 g2).symm
  refine ⟨fun s g1 g2 => ?_, fun q hq => ?_⟩
  · obtain ⟨q, hq, h⟩ := i1 s g1 g2
    exact ⟨q, hq, by rw [h, e s g1 g2]⟩
  · obtain ⟨q0, s, g1, g2, h⟩ := i2 q hq
    exact ⟨q0, s, g1, g2, by rw [h, e s g1 g2]⟩
def overE (f : List Seg) (a z : Int) : Int := if mayF f then (if -1125899906842624 ≤ min a z ∧ max a z ≤ 1125899906842624 ∧ a < z ∧ z - a ≤ 8000 then 0 else 2) else 5
def leastF (ch : Vec → Vec → Vec) (f : List Seg) (a z : Int) : Vec := (runsF f a z).foldl (fun o q => ch o q.1) (atF f a)
theorem fold_min (l : List (Vec × Int)) (v : Vec) : ∀ (o : Vec), leW v (l.foldl (fun o q => minV o q.1) o) = true ↔ leW v o = true ∧ ∀ q ∈ l, leW v q.1 = true := by
  induction l with
  | nil => simp
  | cons x r ih =>
    intro o
    rw [List.foldl_cons, ih]
    simp only [List.mem_cons, forall_eq_or_imp]
    have : leW v (minV o x.1) = true ↔ leW v o = true ∧ leW v x.1 = true := by
      simp only [leW, minV, Bool.and_eq_true, decide_eq_true_eq, Int.le_min]
      constructor
      · rintro ⟨⟨a, b⟩, c, d⟩; exact ⟨⟨a, c⟩, b, d⟩
      · rintro ⟨⟨a, c⟩, b, d⟩; exact ⟨⟨a, b⟩, c, d⟩
    rw [this, and_assoc]
theorem low_le {f : List Seg} (hf : mayF f = true) {a z : Int} (h : a < z) (v : Vec) : leW v (leastF minV f a z) = true ↔ ∀ s, a ≤ s → s < z → leW v (atF f s) = true := by
  obtain ⟨i1, i2⟩ := runsF_law ((mayF_iff f).1 hf).1.up h
  unfold leastF
  rw [fold_min]
  constructor
  · intro ⟨_, hq⟩ s g1 g2
    obtain ⟨q, hq1, e⟩ := i1 s g1 g2
    rw [← e]; exact hq q hq1
  · intro hs
    refine ⟨hs a (Int.le_refl _) h, fun q hq => ?_⟩
    obtain ⟨_, s, g1, g2, e⟩ := i2 q hq
    rw [e]; exact hs s g1 g2
end Go.Proofs.YtglekfgoadehbaaDoor.V
end
section
set_option linter.unusedSimpArgs false
set_option linter.unusedVariables false
/- A frame rule: what a call knows nothing of stays as it was. -/
namespace Go.Proofs.YtglekfgoadehbaaDoor.V
open Go Go.RowKit
variable {P : Program} {Z : Im}
theorem own_ins {st : St} {b : Nat} {o : AObj} {i : Nat} (h : st.own i) : (st.ins b o).own i := by
  rcases h with ⟨x, h⟩ | ⟨k, h, e⟩
  · by_cases hi : i = b
    · exact .inl ⟨o, by simp [St.ins, hi]⟩
    · exact .inl ⟨x, by simp [St.ins, hi, h]⟩
  · exact .inr ⟨k, h, e⟩
theorem Rel.unframe {B : Base} {I : Im} {st : St} {W : World} {b : Nat} {o : AObj} (h : Rel B I (st.ins b o) W) (hb : st.objs b = none) : Rel ⟨st.own, W, I, h.gok⟩ I st W := by
  have hn : ∀ {i : Nat} {x : AObj}, st.objs i = some x → (st.ins b o).objs i = some x := by
    intro i x e
    have : ¬ i = b := fun hi => by rw [hi, hb] at e; cases e
    simp [St.ins, this, e]
  have hk : ∀ {k : Tk}, st.live k = true → ¬ k.b = b ∧ st.objs k.b = none := by
    intro k hl
    obtain ⟨_, _, _, _, _, e⟩ := h.tk k hl
    simp only [St.ins] at e
    split at e
    · cases e
    · rename_i hne; exact ⟨hne, e⟩
  exact {
    cells := fun i cs e => h.cells i cs (hn e)
    raw := fun i x e => h.raw i x (hn e)
    minv := fun i x e => h.minv i x (hn e)
    imm := h.imm
    sep := fun i x e => h.sep i x (hn e)
    tk := fun k hl => by
      obtain ⟨arr, ty, e1, e2, e3, _⟩ := h.tk k hl
      exact ⟨arr, ty, e1, e2, e3, (hk hl).2⟩
    tk1 := h.tk1
    upd := Upd.refl _ _
    own := fun i hi => .inl hi
    le := Im.le.refl _
    new := fun i x hi => .inl hi }
theorem Rel.reframe {B : Base} {I J : Im} {st st' : St} {W W' : World} {b : Nat} {o : AObj} (h : Rel B I (st.ins b o) W) (hb : st.objs b = none) (h' : Rel ⟨st.own, W, I, h.gok⟩ J st' W') : st'.objs b = none ∧ Rel B J (st'.ins b o) W' := by
  have hself : (st.ins b o).objs b = some o := by simp [St.ins]
  have hlt := h.objs_lt hself
  have hno : ¬ st.own b := by
    rintro (⟨x, e⟩ | ⟨k, hl, e⟩)
    · rw [hb] at e; cases e
    · obtain ⟨_, _, _, _, _, e2⟩ := h.tk k hl
      rw [e, hself] at e2; cases e2
  have hno' : ¬ st'.own b := fun hx => by
    rcases h'.own b hx with e | e
    · exact hno e
    · have : W.heap.size ≤ b := e
      omega
  have hheap : W'.heap[b]? = W.heap[b]? := h'.upd.same b hlt hno
  have hJ : ∀ x, J b x = none := by
    intro x
    cases e : J b x with
    | none => rfl
    | some v =>
      rcases h'.new b x (by rw [e]; simp) with q | q | q
      · exact absurd (h.sep b o hself x) q
      · exact absurd q hno
      · have : W.heap.size ≤ b := q
        omega
  have hn' : st'.objs b = none := by
    cases e : st'.objs b with
    | none => rfl
    | some x => exact absurd (.inl ⟨x, e⟩) hno'
  refine ⟨hn', ?_⟩
  exact {
    cells := fun i cs e => by
      simp only [St.ins] at e
      split at e
      · rename_i hi
        subst hi
        cases e
        obtain ⟨vs, ty, e1, e2⟩ := h.cells i cs hself
        exact ⟨vs, ty, hheap.trans e1, RepL.mono h'.le _ _ e2⟩
      · exact h'.cells i cs e
    raw := fun i x e => by
      simp only [St.ins] at e
      split at e
      · rename_i hi
        subst hi
        cases e
        exact hheap.trans (h.raw i x hself)
      · exact h'.raw i x e
    minv := fun i x e => by
      simp only [St.ins] at e
      split at e
      · rename_i hi
        subst hi
        cases e
        obtain ⟨es, clk, e1, hp⟩ := h.minv i x hself
        exact ⟨es, clk, hheap.trans e1, hp⟩
      · exact h'.minv i x e
    imm := h'.imm
    sep := fun i x e => by
      simp only [St.ins] at e
      split at e
      · rename_i hi; subst hi; exact hJ
      · exact h'.sep i x e
    tk := fun k hl => by
      obtain ⟨arr, ty, e1, e2, e3, e4⟩ := h'.tk k hl
      have hne : ¬ k.b = b := fun e => hno' (.inr ⟨k, hl, e⟩)
      exact ⟨arr, ty, e1, e2, e3, by simp only [St.ins]; rw [if_neg hne]; exact e4⟩
    tk1 := h'.tk1
    upd := h.upd.trans (h'.upd.mono fun k _ hk => h.own k (own_ins hk))
    own := fun i hi => by
      have key : st'.own i → B.X i ∨ B.W.heap.size ≤ i := fun hx => by
        rcases h'.own i hx with e | e
        · exact h.own i (own_ins e)
        · have : W.heap.size ≤ i := e
          exact .inr (Nat.le_trans h.upd.size this)
      rcases hi with ⟨x, e⟩ | ⟨k, hl, e⟩
      · simp only [St.ins] at e
        split at e
        · rename_i hi; subst hi; exact h.own i (.inl ⟨o, hself⟩)
        · exact key (.inl ⟨x, e⟩)
      · exact key (.inr ⟨k, hl, e⟩)
    le := h.le.trans h'.le
    new := fun i x hi => by
      rcases h'.new i x hi with q | q | q
      · exact h.new i x q
      · exact .inr (h.own i (own_ins q))
      · have : W.heap.size ≤ i := q
        exact .inr (.inr (Nat.le_trans h.upd.size this)) }
theorem VCalls.frame {f : Nat} {args : List AV} {st : St} {K : AV → St → Prop} (h : VCalls P Z f args st K) (b : Nat) (o : AObj) (hb : st.objs b = none) : VCalls P Z f args (st.ins b o) (fun v s => ∃ s', K v s' ∧ s'.objs b = none ∧ s = s'.ins b o) :=
  ⟨h.1, fun B I W vs hz hr ha => (h.2 _ I W vs hz (hr.unframe hb) ha).mono fun e W' ⟨u, J, st', v, h1, h2, h3, h4, h5⟩ => by
    obtain ⟨q1, q2⟩ := hr.reframe hb h3
    exact ⟨u, J, st'.ins b o, v, h1, h2, q2, h4, st', h5, q1, rfl⟩⟩
theorem VYield.frame {l : Nat} {args : List AV} {st : St} {K : AV → St → Prop} (h : VYield P Z l args st K) (b : Nat) (o : AObj) (hb : st.objs b = none) : VYield P Z l args (st.ins b o) (fun v s => ∃ s', K v s' ∧ s'.objs b = none ∧ s = s'.ins b o) :=
  fun B I W vs hz hr ha => YieldAt.mono' (h _ I W vs hz (hr.unframe hb) ha) fun e W' ⟨u, J, st', v, h1, h2, h3, h4, h5⟩ => by
    obtain ⟨q1, q2⟩ := hr.reframe hb h3
    exact ⟨u, J, st'.ins b o, v, h1, h2, q2, h4, st', h5, q1, rfl⟩
theorem St.le.none {s t : St} (h : s.le t) {b : Nat} (hb : t.objs b = none) : s.objs b = none := by
  cases e : s.objs b with
  | none => rfl
  | some x => rw [h.objs b x e] at hb; cases hb
end Go.Proofs.YtglekfgoadehbaaDoor.V
end
section
set_option linter.unusedSimpArgs false
set_option linter.unusedVariables false
/- Closures whose objects are constants; iterators; ranges over them. -/
namespace Go.Proofs.YtglekfgoadehbaaDoor.V
open Go Go.RowKit
variable {P : Program} {Z : Im}
/-! A pointer to an object becomes a pointer to a constant, in closures and structs. -/
mutual
def AV.sub (b : Nat) (x : AV) : AV → AV
  | .ptr b' o => if b' = b then .iptr x o else .ptr b' o
  | .clo f fs cs => .clo f (AV.subL b x fs) (AV.subL b x cs)
  | .agg cs => .agg (AV.subL b x cs)
  | .tup cs => .tup (AV.subL b x cs)
  | v => v
def AV.subL (b : Nat) (x : AV) : List AV → List AV
  | [] => []
  | a :: r => AV.sub b x a :: AV.subL b x r
end
mutual
theorem Rep.sub {J : Im} {b : Nat} {x : AV} (hp : ∀ o v, Rep J (.ptr b o) v → Rep J (.iptr x o) v) : ∀ (a : AV) (v : Value), Rep J a v → Rep J (AV.sub b x a) v
  | .ptr b' o, v, h => by
    simp only [AV.sub]
    split
    · rename_i e; subst e; exact hp o v h
    · exact h
  | .clo f fs cs, v, h => by
    simp only [AV.sub, Rep] at h ⊢
    obtain ⟨us, vs, e, h1, h2⟩ := h
    exact ⟨us, vs, e, RepL.sub hp fs _ h1, RepL.sub hp cs _ h2⟩
  | .agg cs, v, h => by
    simp only [AV.sub, Rep] at h ⊢
    obtain ⟨vs, e, h1⟩ := h
    exact ⟨vs, e, RepL.sub hp cs _ h1⟩
  | .tup cs, v, h => by
    simp only [AV.sub, Rep] at h ⊢
    obtain ⟨vs, e, h1⟩ := h
    exact ⟨vs, e, RepL.sub hp cs _ h1⟩
  | .undef, _, h => h
  | .no, _, h => h
  | .int _ _, _, h => h
  | .bool _, _, h => h
  | .str _, _, h => h
  | .nilp, _, h => h
  | .iptr _ _, _, h => h
  | .sl _ _, _, h => h
  | .osl _ _ _, _, h => h
  | .osx _ _ _ _, _, h => h
  | .yld _, _, h => h
  | .nilf, _, h => h
  | .mp _, _, h => h
  | .nilm, _, h => h
theorem RepL.sub {J : Im} {b : Nat} {x : AV} (hp : ∀ o v, Rep J (.ptr b o) v → Rep J (.iptr x o) v) : ∀ (l : List AV) (vs : List Value), RepL J l vs → RepL J (AV.subL b x l) vs
  | [], [], _ => trivial
  | a :: r, v :: vs, h => ⟨Rep.sub hp a v h.1, RepL.sub hp r vs h.2⟩
  | [], _ :: _, h => h.elim
  | _ :: _, [], h => h.elim
end
section
variable {B : Base} {I : Im} {st : St} {W : World}
theorem rel_freezeO (h : Rel B I st W) {sz b : Nat} (hp : 0 < sz) {x : AV} (hob : st.objs b = some (.cells x.cells)) (hk : okEl sz x = true) :
    ∃ J, I.le J ∧ Rel B J (st.del b) W ∧ ∀ o v, Rep J (.ptr b o) v → Rep J (.iptr x o) v := by
  obtain ⟨vs, vty, hb, hr⟩ := h.cells b _ hob
  have hdel := h.weaken (St.del_le st b)
  obtain ⟨hle, hrel⟩ := hdel.know (lo := 0) (hi := sz) hb (by simp [St.del]) (fun o _ _ => h.sep b _ hob o) (fun k hk' e => by
    obtain ⟨_, _, _, _, _, r3⟩ := h.tk k hk'
    rw [e, hob] at r3; cases r3) (h.own b (.inl ⟨_, hob⟩))
  refine ⟨_, hle, hrel, fun oo v hv => ?_⟩
  simp only [Rep] at hv ⊢
  have hx := hk
  simp only [okEl, Bool.and_eq_true, beq_iff_eq] at hx
  have hl := hr.length
  have hrr : RepR (I.row b 0 sz vs) sz [x] b 0 := by
    refine RepR.of_flat hp (fun y hy => by rcases List.mem_singleton.1 hy with rfl; exact hk) (vs := vs.toList) ?_ (fun j v hj => ?_)
    · simpa using hr.mono hle
    · have hj2 := (List.getElem?_eq_some_iff.1 hj).1
      unfold Im.row
      rw [if_pos ⟨rfl, by omega, by omega⟩, Nat.zero_add]
      simpa using hj
  simp only [RepR] at hrr
  obtain ⟨⟨u, h1, h2, h3⟩, _⟩ := hrr
  exact ⟨b, 0, u, by rw [Nat.zero_add]; exact hv, h1, h3⟩
end
theorem Wk.fz (st : St) {b : Nat} {x : AV} (hob : st.objs b = some (.cells x.cells)) (hk : okEl x.cells.length x = true) (hp : 0 < x.cells.length) (l : List AV) : Wk st l (st.del b) (AV.subL b x l) := fun B I W vs hr ha => by
  obtain ⟨J, q1, q2, q3⟩ := rel_freezeO hr hp hob hk
  exact ⟨J, q1, q2, RepL.sub q3 l vs (RepL.mono q1 l vs ha)⟩
theorem VCalls.fz {f : Nat} {args : List AV} {st s : St} {K : AV → St → Prop} {v : AV} {b : Nat} {x : AV} (h : VCalls P Z f args st (fun r t => r = v ∧ t = s)) (hob : s.objs b = some (.cells x.cells)) (hk : okEl x.cells.length x = true) (hp : 0 < x.cells.length)
    (hK : K (AV.sub b x v) (s.del b)) : VCalls P Z f args st K := h.wk (by
  rintro _ _ ⟨rfl, rfl⟩
  exact ⟨_, _, Wk.fz _ hob hk hp [_], hK⟩)
theorem St.le.ins {s t : St} (h : s.le t) (b : Nat) (o : AObj) : (s.ins b o).le (t.ins b o) := by
  refine ⟨fun i x e => ?_, fun k hk => h.live k hk⟩
  simp only [St.ins] at e ⊢
  split
  · rename_i hi; rw [if_pos hi] at e; exact e
  · rename_i hi; rw [if_neg hi] at e; exact h.objs i x e
/-! Iterators. -/
def YY (I : Nat → St → Prop) (E : St → Prop) (k : Nat) (v : AV) (s : St) : Prop := (v = .bool true ∧ ∃ S', I (k + 1) S' ∧ S'.le s) ∨ (v = .bool false ∧ ∃ S', E S' ∧ S'.le s)
def VIter (P : Program) (gf : Nat) (fs cs : List AV) (xs : List (List AV)) : Prop :=
  ∀ (Y : Im) (l : Nat) (I : Nat → St → Prop) (E : St → Prop) (S0 : St), I 0 S0 → (∀ k (h : k < xs.length) S, I k S → VYield P Y l xs[k] S (YY I E k)) →
    VCalls P Y gf (fs ++ [.yld l] ++ cs) S0 (fun r s => r = .tup [] ∧ ∃ S', (I xs.length S' ∨ E S') ∧ S'.le s)
def xcode : Exit → Option Code
  | .ret => some .ret
  | .exit id => some (.exit id)
  | .goto t => some (.goto t)
  | _ => none
theorem jump_x {Q : Exit → Fr → St → Prop} {e : Exit} {c : Code} (h : xcode e = some c) (fr : Fr) (st : St) : jumpQ Q (some c) fr st = Q e fr st := by
  cases e <;> simp only [xcode, Option.some.injEq, reduceCtorEq] at h <;> subst h <;> rfl
def rQ (I : Nat → St → Prop) (E : Exit → St → Prop) (k : Nat) (F : St → St) (l : Nat) (r : Loop) : Exit → Fr → St → Prop
  | .normal, _, st => ∃ S', I (k + 1) S' ∧ S'.objs l = none ∧ ((F S').ins l (lobj r .busy none)).le st
  | e, _, st => (∃ S', E e S' ∧ S'.objs l = none ∧ ((F S').ins l (lobj r .busy none)).le st) ∧ (xcode e).isSome = true
theorem rq_normal (I : Nat → St → Prop) (E : Exit → St → Prop) (k : Nat) (F : St → St) (l : Nat) (r : Loop) (fr : Fr) (st : St) : rQ I E k F l r .normal fr st = ∃ S', I (k + 1) S' ∧ S'.objs l = none ∧ ((F S').ins l (lobj r .busy none)).le st := rfl
theorem le_ins_self {s st : St} {b : Nat} {x y : AObj} (h : (s.ins b x).le st) : (s.ins b y).le (st.ins b y) := by
  refine ⟨fun i o e => ?_, fun k hk => h.live k hk⟩
  simp only [St.ins] at e ⊢
  split
  · rename_i hi; rw [if_pos hi] at e; exact e
  · rename_i hi; rw [if_neg hi] at e; exact h.objs i o (by simp only [St.ins]; rw [if_neg hi]; exact e)
theorem iter_call {ps : List Nat} {asg body : VCode} {fr : Fr} {st : St} {gf : Nat} {fs cs : List AV} {xs : List (List AV)} {Y : Im} {l : Nat} {r : Loop} (hit : VIter P gf fs cs xs) (hps : ∀ x ∈ xs, x.length = ps.length) (I : Nat → St → Prop) (E : Exit → St → Prop) (F : St → St) (h0 : I 0 st)
    (hl : st.objs l = none)
    (hyY : ∀ args st' K, args.length = ps.length → st'.objs l = some (lobj r .ready none) →
        vwp P asg Y (some l) (fun e fr1 st1 => e = .normal ∧ st1.objs l = some (lobj r .ready none) ∧ vwp P body Y (some l) (roundQ l r K) fr1 (st1.ins l (lobj r .busy none))) (argsFr ps args fr) st' → VYield P Y l args st' K)
    (hround : ∀ k (h : k < xs.length) S, I k S → S.objs l = none → vwp P asg Y (some l) (fun e fr1 st1 => e = .normal ∧ st1.objs l = some (lobj r .ready none) ∧ vwp P body Y (some l) (rQ I E k F l r) fr1 (st1.ins l (lobj r .busy none))) (argsFr ps xs[k] fr) ((F S).ins l (lobj r .ready none))) :
    VCalls P Y gf (fs ++ [.yld l] ++ cs) ((F st).ins l (lobj r .ready none)) (fun _ s2 => (∃ S', I xs.length S' ∧ S'.objs l = none ∧ s2 = (F S').ins l (lobj r .ready none)) ∨ ∃ e c S', xcode e = some c ∧ E e S' ∧ S'.objs l = none ∧ s2 = (F S').ins l (lobj r .done (some c))) := by
  refine VCalls.wk (hit Y l (fun k s => ∃ S, I k S ∧ S.objs l = none ∧ s = (F S).ins l (lobj r .ready none)) (fun s => ∃ e c S, xcode e = some c ∧ E e S ∧ S.objs l = none ∧ s = (F S).ins l (lobj r .done (some c))) _ ⟨st, h0, hl, rfl⟩ ?_) ?_
  · rintro k hk _ ⟨S, hI, hS, rfl⟩
    refine hyY _ _ _ (hps _ (List.getElem_mem hk)) (by simp [St.ins]) ?_
    refine vwp_mono ?_ (hround k hk S hI hS)
    rintro e fr1 st1 ⟨rfl, h1, h2⟩
    refine ⟨rfl, h1, vwp_mono ?_ h2⟩
    rintro e fr2 st2 hq
    have hx : ∀ {S' : St}, ((F S').ins l (lobj r .busy none)).le st2 → st2.objs l = some (lobj r .busy none) := fun h => h.objs l _ (by simp [St.ins])
    cases e with
    | normal =>
      obtain ⟨S', a1, a2, a3⟩ := hq
      exact ⟨hx a3, .inl ⟨rfl, _, ⟨S', a1, a2, rfl⟩, le_ins_self a3⟩⟩
    | ret =>
      obtain ⟨⟨S', a1, a2, a3⟩, _⟩ := hq
      exact ⟨hx a3, .inr ⟨rfl, _, ⟨.ret, .ret, S', rfl, a1, a2, rfl⟩, le_ins_self a3⟩⟩
    | exit id =>
      obtain ⟨⟨S', a1, a2, a3⟩, _⟩ := hq
      exact ⟨hx a3, .inr ⟨rfl, _, ⟨.exit id, .exit id, S', rfl, a1, a2, rfl⟩, le_ins_self a3⟩⟩
    | goto id =>
      obtain ⟨⟨S', a1, a2, a3⟩, _⟩ := hq
      exact ⟨hx a3, .inr ⟨rfl, _, ⟨.goto id, .goto id, S', rfl, a1, a2, rfl⟩, le_ins_self a3⟩⟩
    | _ => obtain ⟨_, h⟩ := hq; cases h
  · rintro v s ⟨rfl, S', h, hle⟩
    refine ⟨_, S', Wk.le hle _, ?_⟩
    exact h
theorem rng_iter {g : VE} {ps : List Nat} {asg body : VCode} {Q : Exit → Fr → St → Prop} {fr : Fr} {st : St} {gf : Nat} {fs cs : List AV} {xs : List (List AV)} (hg : g.ev fr = .clo gf fs cs) (hit : VIter P gf fs cs xs) (hps : ∀ x ∈ xs, x.length = ps.length)
    (I : Nat → St → Prop) (E : Exit → St → Prop) (h0 : I 0 st)
    (hround : ∀ Y l D r, Z.le Y → ¬ l = D → ¬ D = l → ∀ k (h : k < xs.length) S, I k S → S.objs l = none → S.objs D = none →
      vwp P asg Y (some l) (fun e fr1 st1 => e = .normal ∧ st1.objs l = some (lobj r .ready none) ∧ vwp P body Y (some l) (rQ (fun k S => I k S ∧ S.objs D = none) (fun e S => E e S ∧ S.objs D = none) k (fun S => S.ins D dobj) l r) fr1 (st1.ins l (lobj r .busy none))) (argsFr ps xs[k] fr) ((S.ins D dobj).ins l (lobj r .ready none)))
    (hend : ∀ D l o S, ¬ l = D → ¬ D = l → I xs.length S → S.objs l = none → S.objs D = none → Q .normal { fr with d := D :: fr.d } ((S.ins D dobj).ins l o))
    (hout : ∀ e D l o S, ¬ l = D → ¬ D = l → E e S → S.objs l = none → S.objs D = none → Q e { fr with d := D :: fr.d } ((S.ins D dobj).ins l o)) : vwp P (.rng g ps asg body) Z none Q fr st := by
  refine rng_of hg (fun Y l D r hzy hl hD hlD hyY => ?_)
  have hDl : ¬ D = l := fun e => hlD e.symm
  refine (iter_call hit hps (fun k S => I k S ∧ S.objs D = none) (fun e S => E e S ∧ S.objs D = none) (fun S => S.ins D dobj) ⟨h0, hD⟩ hl hyY (fun k hk S hI hS => hround Y l D r hzy hlD hDl k hk S hI.1 hS hI.2)).mono ?_
  rintro v s (⟨S', ⟨a1, a2⟩, a3, rfl⟩ | ⟨e, c, S', hc, ⟨a1, a2⟩, a3, rfl⟩)
  · exact ⟨.ready, none, by simp, by simp [St.ins], by rw [jq_none, ins_ins]; exact hend D l _ S' hlD hDl a1 a3 a2⟩
  · refine ⟨.done, some c, by simp, by simp [St.ins], ?_⟩
    rw [jump_x hc, ins_ins]
    exact hout e D l _ S' hlD hDl a1 a3 a2
/-! Functions with ranges over functions: what is left at the end. -/
def DS (st S : St) (ds : List Nat) : Prop := st.le S ∧ ds.Nodup ∧ ∀ D ∈ ds, S.objs D = some dobj ∧ st.objs D = none
theorem DS.nil {st S : St} (h : st.le S) : DS st S [] := ⟨h, List.nodup_nil, fun _ hm => absurd hm List.not_mem_nil⟩
theorem le_ins_new {s t : St} (h : s.le t) {b : Nat} (o : AObj) (hb : s.objs b = none) : s.le (t.ins b o) := by
  refine ⟨fun i x e => ?_, fun k hk => h.live k hk⟩
  simp only [St.ins]
  split
  · rename_i hi; subst hi; rw [hb] at e; cases e
  · exact h.objs i x e
theorem DS.cons {st S : St} {ds : List Nat} (h : DS st S ds) {D : Nat} (hD : S.objs D = none) : DS st (S.ins D dobj) (D :: ds) := by
  obtain ⟨h1, h2, h3⟩ := h
  have hst := h1.none hD
  refine ⟨le_ins_new h1 _ hst, List.nodup_cons.2 ⟨fun hm => (by rw [(h3 D hm).1] at hD; cases hD), h2⟩, fun E hE => ?_⟩
  rcases List.mem_cons.1 hE with rfl | hE
  · exact ⟨by simp [St.ins], hst⟩
  · have hne : ¬ E = D := fun e => by rw [← e, (h3 E hE).1] at hD; cases hD
    exact ⟨by simp only [St.ins]; rw [if_neg hne]; exact (h3 E hE).1, (h3 E hE).2⟩
theorem argsFr1_t (p : Nat) (a : AV) (fr : Fr) (i : Nat) : (argsFr [p] [a] fr).t i = if i = p then a else fr.t i := rfl
theorem argsFr1_d (p : Nat) (a : AV) (fr : Fr) : (argsFr [p] [a] fr).d = [] := rfl
theorem DS.fin {st S s' : St} {ds : List Nat} (h : DS st S ds) (hs : S.le s') : ∀ D ∈ ds, s'.objs D = some dobj ∧ st.objs D = none := fun D hD => ⟨hs.objs D _ (h.2.2 D hD).1, (h.2.2 D hD).2⟩
/-! Maps of which an invariant is known. -/
end Go.Proofs.YtglekfgoadehbaaDoor.V
end
section
set_option linter.unusedSimpArgs false
set_option linter.unusedVariables false
/- More loops. -/
namespace Go.Proofs.YtglekfgoadehbaaDoor.V
open Go Go.RowKit
variable {P : Program} {Z : Im}
theorem loopp_of {b : VCode} {ro : Option Nat} {Q : Exit → Fr → St → Prop} {fr0 : Fr} {st0 : St} {l : List Nat} {n : Bool} (hl : asgL b = l) (hd : noR b = n) {len : Nat} (hn : len ≤ 1000000000000) (I : Nat → Fr → Prop) (h0 : I 0 fr0)
    (hs : ∀ k fr, k < len → IntKind.i64.wrap ((k : Int) + 1) = (k : Int) + 1 → (∀ i, l.contains i = false → fr.t i = fr0.t i) → (n = true → fr.d = fr0.d) → I k fr → vwp P b Z ro (thenQ (fun fr' st' => st0.le st' ∧ I (k + 1) fr') Q) fr st0)
    (he : ∀ fr, (∀ i, l.contains i = false → fr.t i = fr0.t i) → (n = true → fr.d = fr0.d) → I len fr → vwp P b Z ro (thenQ (fun _ _ => False) Q) fr st0) : vwp P (.loop b) Z ro Q fr0 st0 := by
  refine loopf_of hl hd hn (fun k fr s => s = st0 ∧ I k fr) ⟨rfl, h0⟩ ?_ ?_
  · rintro k fr s hk hw hf hdd ⟨rfl, hI⟩
    refine vwp_mono (fun e fr2 st2 q => ?_) (hs k fr hk hw hf hdd hI)
    cases e <;> simp only [thenQ] at q ⊢
    · exact ⟨_, q.1, rfl, q.2⟩
    all_goals exact q
  · rintro fr s hf hdd ⟨rfl, hI⟩
    exact he fr hf hdd hI
theorem toNat_succ (k : Nat) : ((k : Int) + 1).toNat = k + 1 := by omega
end Go.Proofs.YtglekfgoadehbaaDoor.V
end
section
set_option linter.unusedSimpArgs false
set_option linter.unusedVariables false
/- The compiled functions of the package span (printed by Print.lean of this work). -/
namespace Go.Proofs.YtglekfgoadehbaaDoor.V
open Go Go.Proofs
def v_span_Low : VFn := ⟨.seq (.reg [⟨some 6, .alloc [(.int .i64 0), (.int .i64 0)], none, [], []⟩,
 ⟨some 7, .mov (.c (.int .i64 0)), none, [], []⟩])
(.seq (.reg [⟨some 8, .mov (.t 0), none, [], []⟩,
 ⟨some 9, .mov (.t 1), none, [], []⟩,
 ⟨some 10, .mov (.t 2), none, [], []⟩,
 ⟨some 11, .call 48 [(.t 8), (.t 9), (.t 10), (.c (.clo 39 [] []))], none, [0, 1, 2], []⟩,
 ⟨some 12, .ext (.t 11) 0, none, [3], []⟩,
 ⟨some 13, .ext (.t 11) 1, none, [3], []⟩,
 ⟨none, .store 2 (.t 6) (.t 12), none, [4, 3, 0, 1, 2, 3, 4, 5], []⟩,
 ⟨some 7, .mov (.t 13), none, [5, 6, 0, 1, 2, 3, 4, 5, 6], []⟩])
(.ret)),
[.c 6 2 true, .t 7], 14⟩
theorem v_span_Low_ok : compF Tryd.prog 26 = some v_span_Low := by kernel_rfl
def v_span_least : VFn := ⟨.seq (.reg [⟨some 7, .box (.t 3), none, [], []⟩,
 ⟨some 8, .alloc [(.int .i64 0), (.int .i64 0)], none, [], []⟩,
 ⟨some 9, .mov (.c (.int .i64 0)), none, [], []⟩])
(.seq (.reg [⟨some 12, .mov (.t 0), none, [], []⟩,
 ⟨some 13, .mov (.t 1), none, [], []⟩,
 ⟨some 14, .call 46 [(.t 12), (.t 13)], none, [0, 1], []⟩,
 ⟨some 10, .alloc [(.int .i64 0), (.int .i64 0)], none, [], []⟩,
 ⟨none, .store 2 (.t 10) (.t 14), none, [3, 2, 2, 0, 1, 2, 3], []⟩])
(.seq (.reg [⟨some 15, .mov (.t 0), none, [], []⟩,
 ⟨some 16, .mov (.t 1), none, [], []⟩,
 ⟨some 17, .mov (.t 2), none, [], []⟩,
 ⟨some 18, .mkf 77 [] [(.t 7), (.t 10)], none, [], []⟩,
 ⟨some 19, .call 76 [(.t 15), (.t 16), (.t 17), (.t 18)], none, [0, 1, 2, 3], []⟩,
 ⟨some 11, .mov (.t 19), none, [4, 4, 0, 1, 2, 3, 4], []⟩])
(.seq (.seq (.reg [⟨some 20, .mov (.t 11), none, [], []⟩,
 ⟨some 21, .bin .neq (.t 20) (.c (.int .i64 0)), none, [0], []⟩])
(.cond (.t 21)
 (.seq (.reg [⟨some 22, .build [(.int .i64 0), (.int .i64 0)] [], none, [], []⟩,
 ⟨some 23, .mov (.t 11), none, [], []⟩,
 ⟨none, .store 2 (.t 8) (.t 22), none, [0, 0], []⟩,
 ⟨some 9, .mov (.t 23), none, [1, 2, 0, 1, 2], []⟩])
 (.ret))
 (.skip)))
(.seq (.reg [⟨some 24, .load 2 true (.t 10), none, [], []⟩,
 ⟨none, .store 2 (.t 8) (.t 24), none, [0, 0], []⟩,
 ⟨some 9, .mov (.c (.int .i64 0)), none, [1, 0, 1], []⟩])
(.ret))))),
[.c 8 2 true, .t 9], 25⟩
theorem v_span_least_ok : compF Tryd.prog 48 = some v_span_least := by kernel_rfl
def v_span_over : VFn := ⟨.seq (.reg [⟨some 7, .box (.t 3), none, [], []⟩,
 ⟨some 8, .mov (.c (.int .i64 0)), none, [], []⟩])
(.seq (.block 0
 (.seq (.reg [⟨some 11, .mov (.t 0), none, [], []⟩,
 ⟨some 12, .call 33 [(.t 11)], none, [0], []⟩,
 ⟨some 13, .un .not (.t 12), none, [1], []⟩,
 ⟨some 10, .mov (.t 13), none, [2, 1], []⟩])
 (.cond (.t 10)
 (.seq (.reg [⟨some 8, .mov (.c (.int .i64 5)), none, [], []⟩])
 (.ret))
 (.seq (.reg [⟨some 15, .mov (.t 1), none, [], []⟩,
 ⟨some 16, .mov (.t 2), none, [], []⟩,
 ⟨some 17, .bsl 1 [(.t 15), (.t 16)], none, [0, 1], []⟩,
 ⟨some 18, .call 90 [(.t 17)], none, [2], []⟩,
 ⟨some 19, .un .not (.t 18), none, [3], []⟩,
 ⟨some 20, .mov (.t 19), none, [4, 3], []⟩,
 ⟨some 21, .mov (.t 1), some (20, false), [5], []⟩,
 ⟨some 22, .mov (.t 2), some (20, false), [5], []⟩,
 ⟨some 23, .bin .geq (.t 21) (.t 22), some (20, false), [6, 7, 5], []⟩,
 ⟨some 24, .pick (.t 20) (.c (.bool true)) (.t 23), none, [5, 8], []⟩,
 ⟨some 25, .mov (.t 24), none, [9, 5], []⟩,
 ⟨some 26, .mov (.t 2), some (25, false), [10], []⟩,
 ⟨some 27, .mov (.t 1), some (25, false), [10], []⟩,
 ⟨some 28, .bin .sub (.t 26) (.t 27), some (25, false), [11, 12, 10], []⟩,
 ⟨some 29, .bin .gtr (.t 28) (.c (.int .i64 8000)), some (25, false), [13, 10], []⟩,
 ⟨some 30, .pick (.t 25) (.c (.bool true)) (.t 29), none, [10, 14], []⟩,
 ⟨some 14, .mov (.t 30), none, [15, 10], []⟩])
 (.cond (.t 14)
 (.seq (.reg [⟨some 8, .mov (.c (.int .i64 2)), none, [], []⟩])
 (.ret))
 (.skip))))))
(.seq (.seq (.reg [⟨some 31, .mov (.t 0), none, [], []⟩,
 ⟨some 32, .mov (.t 1), none, [], []⟩,
 ⟨some 33, .mov (.t 2), none, [], []⟩,
 ⟨some 34, .call 91 [(.t 31), (.t 32), (.t 33)], none, [0, 1, 2], []⟩])
(.block 1
 (.rng (.t 34) [35]
 (.reg [⟨some 9, .alloc [(.int .i64 0), (.int .i64 0), (.int .i64 0)], none, [], []⟩,
 ⟨none, .store 3 (.t 9) (.t 35), none, [0, 0], []⟩])
 (.block 2
 (.reg [⟨some 36, .load 1 false (.t 7), none, [], []⟩,
 ⟨some 37, .load 3 true (.t 9), none, [], []⟩,
 ⟨some 38, .callv (.t 36) [(.t 37)], none, [0, 1], []⟩])))))
(.seq (.reg [⟨some 8, .mov (.c (.int .i64 0)), none, [], []⟩])
(.ret)))),
[.t 8], 39⟩
theorem v_span_over_ok : compF Tryd.prog 76 = some v_span_over := by kernel_rfl
def v_span_least_1 : VFn := ⟨.seq (.reg [⟨some 3, .box (.t 0), none, [], []⟩])
(.reg [⟨some 4, .load 1 false (.t 1), none, [], []⟩,
 ⟨some 5, .load 2 true (.t 2), none, [], []⟩,
 ⟨some 6, .fad 0 (.t 3), none, [], []⟩,
 ⟨some 7, .load 2 true (.t 6), none, [2], []⟩,
 ⟨some 8, .callv (.t 4) [(.t 5), (.t 7)], none, [0, 1, 3], []⟩,
 ⟨none, .store 2 (.t 2) (.t 8), none, [4, 4, 0, 1, 2, 3, 4], []⟩]),
[], 9⟩
theorem v_span_least_1_ok : compF Tryd.prog 77 = some v_span_least_1 := by kernel_rfl
def v_span_in : VFn := ⟨.seq (.reg [⟨some 2, .mov (.c (.bool false)), none, [], []⟩])
(.seq (.reg [⟨some 3, .mov (.t 0), none, [], []⟩,
 ⟨some 4, .call 95 [(.t 3)], none, [0], []⟩,
 ⟨some 5, .bin .geq (.t 4) (.c (.int .i64 (-1125899906842624))), none, [1], []⟩,
 ⟨some 6, .mov (.t 5), none, [2, 1], []⟩,
 ⟨some 7, .mov (.t 0), some (6, true), [3], []⟩,
 ⟨some 8, .call 96 [(.t 7)], some (6, true), [4, 3, 3], []⟩,
 ⟨some 9, .bin .leq (.t 8) (.c (.int .i64 1125899906842624)), some (6, true), [5, 3], []⟩,
 ⟨some 10, .pick (.t 6) (.t 9) (.c (.bool false)), none, [3, 6], []⟩,
 ⟨some 2, .mov (.t 10), none, [7, 5, 0, 1, 2, 3, 4, 5, 6, 7], []⟩])
(.ret)),
[.t 2], 11⟩
theorem v_span_in_ok : compF Tryd.prog 90 = some v_span_in := by kernel_rfl
def v_span_runs : VFn := ⟨.seq (.reg [⟨some 3, .box (.t 0), none, [], []⟩,
 ⟨some 4, .box (.t 1), none, [], []⟩,
 ⟨some 5, .box (.t 2), none, [], []⟩,
 ⟨some 6, .mov (.c .nilf), none, [], []⟩])
(.seq (.reg [⟨some 7, .mkf 97 [] [(.t 4), (.t 3), (.t 5)], none, [], []⟩,
 ⟨some 6, .mov (.t 7), none, [0, 0], []⟩])
(.ret)),
[.t 6], 8⟩
theorem v_span_runs_ok : compF Tryd.prog 91 = some v_span_runs := by kernel_rfl
def v_span_runs_1 : VFn := ⟨.seq (.dreg [⟨some 9, .load 1 false (.t 1), none, [], []⟩,
 ⟨some 10, .load 1 false (.t 2), none, [], []⟩,
 ⟨some 11, .load 1 false (.t 1), none, [], []⟩,
 ⟨some 12, .call 46 [(.t 10), (.t 11)], none, [1, 2], []⟩,
 ⟨some 6, .alloc [(.int .i64 0), (.int .i64 0)], none, [], []⟩,
 ⟨some 5, .mov (.t 9), none, [0, 3, 0, 4], []⟩,
 ⟨none, .store 2 (.t 6) (.t 12), none, [4, 3, 5, 0, 1, 2, 3, 4, 5], []⟩])
(.seq (.seq (.reg [⟨some 13, .load 1 false (.t 2), none, [], []⟩,
 ⟨some 14, .len (.t 13), none, [0], []⟩,
 ⟨some 15, .mov (.c (.int .i64 0)), none, [], []⟩])
(.block 0
 (.loop
 (.seq (.reg [⟨some 16, .bin .lss (.t 15) (.t 14), none, [], []⟩])
 (.seq (.cond (.t 16)
 (.skip)
 (.exit 0))
 (.seq (.block 1
 (.seq (.reg [⟨some 17, .iad 3 (.t 13) (.t 15), none, [], []⟩,
 ⟨some 18, .load 3 true (.t 17), none, [0], []⟩,
 ⟨some 8, .alloc [(.int .i64 0), (.int .i64 0), (.int .i64 0)], none, [], []⟩,
 ⟨none, .store 3 (.t 8) (.t 18), none, [2, 1, 0, 1, 2], []⟩])
 (.seq (.seq (.reg [⟨some 19, .fad 0 (.t 8), none, [], []⟩,
 ⟨some 20, .load 1 false (.t 19), none, [0], []⟩,
 ⟨some 21, .load 1 false (.t 1), none, [], []⟩,
 ⟨some 22, .bin .leq (.t 20) (.t 21), none, [1, 2], []⟩,
 ⟨some 23, .mov (.t 22), none, [3], []⟩,
 ⟨some 24, .fad 0 (.t 8), some (23, false), [4], []⟩,
 ⟨some 25, .load 1 false (.t 24), some (23, false), [5, 4], []⟩,
 ⟨some 26, .load 1 false (.t 3), some (23, false), [4], []⟩,
 ⟨some 27, .bin .geq (.t 25) (.t 26), some (23, false), [6, 7, 4], []⟩,
 ⟨some 28, .pick (.t 23) (.c (.bool true)) (.t 27), none, [4, 8], []⟩])
 (.cond (.t 28)
 (.exit 1)
 (.skip)))
 (.seq (.seq (.reg [⟨some 29, .mov (.t 0), none, [], []⟩,
 ⟨some 30, .load 2 true (.t 6), none, [], []⟩,
 ⟨some 31, .fad 0 (.t 8), none, [], []⟩,
 ⟨some 32, .load 1 false (.t 31), none, [2], []⟩,
 ⟨some 33, .mov (.t 5), none, [], []⟩,
 ⟨some 34, .bin .sub (.t 32) (.t 33), none, [3, 4], []⟩,
 ⟨some 35, .build [(.int .i64 0), (.int .i64 0), (.int .i64 0)] [(0, 2, (.t 30)), (2, 1, (.t 34))], none, [1, 5], []⟩,
 ⟨some 36, .callv (.t 29) [(.t 35)], none, [0, 6], []⟩,
 ⟨some 37, .un .not (.t 36), none, [7], []⟩])
 (.cond (.t 37)
 (.ret)
 (.skip)))
 (.dreg [⟨some 38, .fad 0 (.t 8), none, [], []⟩,
 ⟨some 39, .load 1 false (.t 38), none, [0], []⟩,
 ⟨some 40, .fad 1 (.t 8), none, [], []⟩,
 ⟨some 41, .load 2 true (.t 40), none, [2], []⟩,
 ⟨some 5, .mov (.t 39), none, [1, 0, 1], []⟩,
 ⟨none, .store 2 (.t 6) (.t 41), none, [3, 4, 0, 1, 2, 3, 4], []⟩])))))
 (.reg [⟨some 42, .bin .add (.t 15) (.c (.int .i64 1)), none, [], []⟩,
 ⟨some 15, .mov (.t 42), none, [0], []⟩])))))))
(.reg [⟨some 43, .mov (.t 0), none, [], []⟩,
 ⟨some 44, .load 2 true (.t 6), none, [], []⟩,
 ⟨some 45, .load 1 false (.t 3), none, [], []⟩,
 ⟨some 46, .mov (.t 5), none, [], []⟩,
 ⟨some 47, .bin .sub (.t 45) (.t 46), none, [2, 3], []⟩,
 ⟨some 48, .build [(.int .i64 0), (.int .i64 0), (.int .i64 0)] [(0, 2, (.t 44)), (2, 1, (.t 47))], none, [1, 4], []⟩,
 ⟨some 49, .callv (.t 43) [(.t 48)], none, [0, 5], []⟩])),
[], 50⟩
theorem v_span_runs_1_ok : compF Tryd.prog 97 = some v_span_runs_1 := by kernel_rfl
end Go.Proofs.YtglekfgoadehbaaDoor.V
end
section
set_option linter.unusedSimpArgs false
set_option linter.unusedVariables false
/- What the package span's functions compute: in, runs, over, Low. -/
namespace Go.Proofs.YtglekfgoadehbaaDoor.V
open Go Go.Proofs
set_option maxRecDepth 100000
set_option maxHeartbeats 4000000
theorem MinI_v (x : Int) (r : List Int) (hr : r.length ≤ 1000000000) (t : Tok) : VPure Tryd.prog 95 [.sl ((x :: r).map num) t] (num (r.foldl min x)) := by
  obtain ⟨l, hl⟩ : ∃ l, x :: r = l := ⟨_, rfl⟩
  have h0 : l.getD 0 default = x := by rw [← hl]; rfl
  have hs : ∀ k, k < r.length → l.getD (k + 1) default = r[k]! := fun k hk => by rw [← hl]; simp [List.getD_eq_getElem?_getD, List.getElem?_eq_getElem hk]
  have hlen : (l.length : Int) = r.length + 1 := by rw [← hl]; simp
  rw [hl]
  have HS := Hid.mk hs
  clear hl hs
  refine VPure.of v_slices_Min_int64_int64_ok (Nat.le_of_ble_eq_true rfl) (fun Z st => ?_)
  simp only [v_slices_Min_int64_int64, ↓vD, vU, ↓vMd, vMu, VE.ev, VE.evs, retvs, tupOf, grab, vfill, vbsl, eqCells, eqCell, veqs, veqs1, vmnx, AV.isCell, AV.isUndef, Nat.reduceEqDiff, Nat.reduceAdd, Nat.reduceSub, Nat.reduceLeDiff, Nat.reduceLT, reduceIte, reduceCtorEq, Nat.reduceBEq, k_app, k_slc1]
  (repeat' (first | (simp (config := { maxDischargeDepth := 16 }) only [*, num, vX, Int.reduceLE, Int.reduceLT, Int.reduceGE, Int.reduceGT, Int.reduceBEq, Int.reduceBNe, Int.reduceAdd, Int.reduceSub, Int.reduceMul, Int.reduceNeg, ↓vD, vU, ↓vMd, vMu, VE.ev, VE.evs, retvs, tupOf, grab, vfill, vbsl, eqCells, eqCell, veqs, veqs1, vmnx, AV.isCell, AV.isUndef, Nat.reduceEqDiff, Nat.reduceAdd, Nat.reduceSub, Nat.reduceLeDiff, Nat.reduceLT, reduceIte, reduceCtorEq, Nat.reduceBEq]) | (simp (disch := first | assumption | omega | exact Seg.len _ | exact Vec.len _ | exact Leg.len _ | exact num_len _ | exact rowA_len _ | exact rowA_len | exact rowT_len _ | exact rowT_len | exact Seg.len | exact Vec.len | exact Leg.len | exact num_len | exact AV.slen _ _ | rfl) only [num, vP]) | (with_reducible (first | refine gsnd (fun _ => ?_) (fun _ => ?_) | refine csnd (fun _ => ?_) (fun _ => ?_) | refine gsd (fun _ => ?_) (fun _ => ?_) | refine csd (fun _ => ?_) (fun _ => ?_) | refine gsn (fun _ => ?_) (fun _ => ?_) | refine csn (fun _ => ?_) (fun _ => ?_))) | (with_reducible refine gs (fun _ => ?_) (fun _ => ?_)) | (with_reducible refine cs_ (fun _ => ?_) (fun _ => ?_)) | (with_reducible refine objQ_i (fun _ _ => ?_); (repeat (with_reducible refine imp_i (fun _ => ?_)))) | ((try with_reducible refine appK_a ?_); first | (with_reducible refine appD_F (by refine ⟨?_, ?_, ?_, ?_⟩ <;> (first | assumption | omega | exact St.has_add (by assumption) | (simp only [ins_has]; exact St.has_add (by assumption)) | (simp only [ins_has, fresh_ins, kill_ins, add_ins] at *; exact St.has_add (by assumption)) | (simp only [*, ins_has, has_full, St.has_add]; done) | (simp [-List.map_take, -List.map_drop, or_imp, forall_and, Seg.a, Vec.a, Leg.a, num, okEl, cells_agg, cells_int, cells_sl, cells_bool, AV.isCell]; done) | (simp; omega))) (fun _ _ => ?_)) | (with_reducible refine appD_V (by refine ⟨?_, ?_, ?_, ?_, ?_⟩ <;> (first | assumption | omega | exact St.has_add (by assumption) | (simp only [ins_has]; exact St.has_add (by assumption)) | (simp only [ins_has, fresh_ins, kill_ins, add_ins] at *; exact St.has_add (by assumption)) | (simp only [*, ins_has, has_full, St.has_add]; done) | (simp [-List.map_take, -List.map_drop, or_imp, forall_and, Seg.a, Vec.a, Leg.a, num, okEl, cells_agg, cells_int, cells_sl, cells_bool, AV.isCell]; done) | (simp; omega))) (fun _ _ => ?_))) | (with_reducible refine freshQ_i (fun _ _ => ?_)) | (with_reducible refine nilQ_i (fun _ _ => ?_))))
  refine loopp_of (len := r.length) (by simp only [asgL, dsts, List.cons_append, List.nil_append, List.append_nil]; rfl) (by simp only [noR, Bool.and_true, Bool.and_false]; rfl) (by omega) (fun k fr => fr.t 4 = .int .i64 ((k : Int) + 1) ∧ fr.t 3 = .int .i64 ((r.take k).foldl min x)) ?_ ?_ ?_
  · simp [↓vD, vU, ↓vMd, vMu, VE.ev, VE.evs, retvs, tupOf, grab, vfill, vbsl, eqCells, eqCell, veqs, veqs1, vmnx, AV.isCell, AV.isUndef, Nat.reduceEqDiff, Nat.reduceAdd, Nat.reduceSub, Nat.reduceLeDiff, Nat.reduceLT, reduceIte, reduceCtorEq, Nat.reduceBEq, k_app, k_slc1]
  · rintro k fr hk hw hfr hd ⟨h4, h3⟩
    have hg := HS.out k hk
    obtain ⟨y, hy⟩ : ∃ y, r[k]! = y := ⟨_, rfl⟩
    rw [hy] at hg
    have hfold : (r.take (k + 1)).foldl min x = min ((r.take k).foldl min x) y := by
      rw [List.take_add_one, List.getElem?_eq_getElem hk, List.foldl_append, ← hy, getElem!_pos r k hk]; rfl
    have hw2 : IntKind.i64.wrap ((k : Int) + 1 + 1) = (k : Int) + 1 + 1 := wrap_i64 _ (by omega) (by omega)
    (repeat' (first | (simp (config := { maxDischargeDepth := 16 }) only [*, num, toNat_succ, vmin2, vX, Int.reduceLE, Int.reduceLT, Int.reduceGE, Int.reduceGT, Int.reduceBEq, Int.reduceBNe, Int.reduceAdd, Int.reduceSub, Int.reduceMul, Int.reduceNeg, ↓vD, vU, ↓vMd, vMu, VE.ev, VE.evs, retvs, tupOf, grab, vfill, vbsl, eqCells, eqCell, veqs, veqs1, vmnx, AV.isCell, AV.isUndef, Nat.reduceEqDiff, Nat.reduceAdd, Nat.reduceSub, Nat.reduceLeDiff, Nat.reduceLT, reduceIte, reduceCtorEq, Nat.reduceBEq]) | (simp (disch := first | assumption | omega | exact Seg.len _ | exact Vec.len _ | exact Leg.len _ | exact num_len _ | exact rowA_len _ | exact rowA_len | exact rowT_len _ | exact rowT_len | exact Seg.len | exact Vec.len | exact Leg.len | exact num_len | exact AV.slen _ _ | rfl) only [num, toNat_succ, vmin2, vP]) | (with_reducible (first | refine gsnd (fun _ => ?_) (fun _ => ?_) | refine csnd (fun _ => ?_) (fun _ => ?_) | refine gsd (fun _ => ?_) (fun _ => ?_) | refine csd (fun _ => ?_) (fun _ => ?_) | refine gsn (fun _ => ?_) (fun _ => ?_) | refine csn (fun _ => ?_) (fun _ => ?_))) | (with_reducible refine gs (fun _ => ?_) (fun _ => ?_)) | (with_reducible refine cs_ (fun _ => ?_) (fun _ => ?_)) | (with_reducible refine objQ_i (fun _ _ => ?_); (repeat (with_reducible refine imp_i (fun _ => ?_)))) | ((try with_reducible refine appK_a ?_); first | (with_reducible refine appD_F (by refine ⟨?_, ?_, ?_, ?_⟩ <;> (first | assumption | omega | exact St.has_add (by assumption) | (simp only [ins_has]; exact St.has_add (by assumption)) | (simp only [ins_has, fresh_ins, kill_ins, add_ins] at *; exact St.has_add (by assumption)) | (simp only [*, ins_has, has_full, St.has_add]; done) | (simp [-List.map_take, -List.map_drop, or_imp, forall_and, Seg.a, Vec.a, Leg.a, num, okEl, cells_agg, cells_int, cells_sl, cells_bool, AV.isCell]; done) | (simp; omega))) (fun _ _ => ?_)) | (with_reducible refine appD_V (by refine ⟨?_, ?_, ?_, ?_, ?_⟩ <;> (first | assumption | omega | exact St.has_add (by assumption) | (simp only [ins_has]; exact St.has_add (by assumption)) | (simp only [ins_has, fresh_ins, kill_ins, add_ins] at *; exact St.has_add (by assumption)) | (simp only [*, ins_has, has_full, St.has_add]; done) | (simp [-List.map_take, -List.map_drop, or_imp, forall_and, Seg.a, Vec.a, Leg.a, num, okEl, cells_agg, cells_int, cells_sl, cells_bool, AV.isCell]; done) | (simp; omega))) (fun _ _ => ?_))) | (with_reducible refine freshQ_i (fun _ _ => ?_)) | (with_reducible refine nilQ_i (fun _ _ => ?_))))
  · rintro fr hfr hd ⟨h4, h3⟩
    rw [List.take_length] at h3
    (repeat' (first | (simp (config := { maxDischargeDepth := 16 }) only [*, num, vX, Int.reduceLE, Int.reduceLT, Int.reduceGE, Int.reduceGT, Int.reduceBEq, Int.reduceBNe, Int.reduceAdd, Int.reduceSub, Int.reduceMul, Int.reduceNeg, ↓vD, vU, ↓vMd, vMu, VE.ev, VE.evs, retvs, tupOf, grab, vfill, vbsl, eqCells, eqCell, veqs, veqs1, vmnx, AV.isCell, AV.isUndef, Nat.reduceEqDiff, Nat.reduceAdd, Nat.reduceSub, Nat.reduceLeDiff, Nat.reduceLT, reduceIte, reduceCtorEq, Nat.reduceBEq]) | (simp (disch := first | assumption | omega | exact Seg.len _ | exact Vec.len _ | exact Leg.len _ | exact num_len _ | exact rowA_len _ | exact rowA_len | exact rowT_len _ | exact rowT_len | exact Seg.len | exact Vec.len | exact Leg.len | exact num_len | exact AV.slen _ _ | rfl) only [num, vP]) | (with_reducible (first | refine gsnd (fun _ => ?_) (fun _ => ?_) | refine csnd (fun _ => ?_) (fun _ => ?_) | refine gsd (fun _ => ?_) (fun _ => ?_) | refine csd (fun _ => ?_) (fun _ => ?_) | refine gsn (fun _ => ?_) (fun _ => ?_) | refine csn (fun _ => ?_) (fun _ => ?_))) | (with_reducible refine gs (fun _ => ?_) (fun _ => ?_)) | (with_reducible refine cs_ (fun _ => ?_) (fun _ => ?_)) | (with_reducible refine objQ_i (fun _ _ => ?_); (repeat (with_reducible refine imp_i (fun _ => ?_)))) | ((try with_reducible refine appK_a ?_); first | (with_reducible refine appD_F (by refine ⟨?_, ?_, ?_, ?_⟩ <;> (first | assumption | omega | exact St.has_add (by assumption) | (simp only [ins_has]; exact St.has_add (by assumption)) | (simp only [ins_has, fresh_ins, kill_ins, add_ins] at *; exact St.has_add (by assumption)) | (simp only [*, ins_has, has_full, St.has_add]; done) | (simp [-List.map_take, -List.map_drop, or_imp, forall_and, Seg.a, Vec.a, Leg.a, num, okEl, cells_agg, cells_int, cells_sl, cells_bool, AV.isCell]; done) | (simp; omega))) (fun _ _ => ?_)) | (with_reducible refine appD_V (by refine ⟨?_, ?_, ?_, ?_, ?_⟩ <;> (first | assumption | omega | exact St.has_add (by assumption) | (simp only [ins_has]; exact St.has_add (by assumption)) | (simp only [ins_has, fresh_ins, kill_ins, add_ins] at *; exact St.has_add (by assumption)) | (simp only [*, ins_has, has_full, St.has_add]; done) | (simp [-List.map_take, -List.map_drop, or_imp, forall_and, Seg.a, Vec.a, Leg.a, num, okEl, cells_agg, cells_int, cells_sl, cells_bool, AV.isCell]; done) | (simp; omega))) (fun _ _ => ?_))) | (with_reducible refine freshQ_i (fun _ _ => ?_)) | (with_reducible refine nilQ_i (fun _ _ => ?_))))
theorem MaxI_v (x : Int) (r : List Int) (hr : r.length ≤ 1000000000) (t : Tok) : VPure Tryd.prog 96 [.sl ((x :: r).map num) t] (num (r.foldl max x)) := by
  obtain ⟨l, hl⟩ : ∃ l, x :: r = l := ⟨_, rfl⟩
  have h0 : l.getD 0 default = x := by rw [← hl]; rfl
  have hs : ∀ k, k < r.length → l.getD (k + 1) default = r[k]! := fun k hk => by rw [← hl]; simp [List.getD_eq_getElem?_getD, List.getElem?_eq_getElem hk]
  have hlen : (l.length : Int) = r.length + 1 := by rw [← hl]; simp
  rw [hl]
  have HS := Hid.mk hs
  clear hl hs
  refine VPure.of v_slices_Max_int64_int64_ok (Nat.le_of_ble_eq_true rfl) (fun Z st => ?_)
  simp only [v_slices_Max_int64_int64, ↓vD, vU, ↓vMd, vMu, VE.ev, VE.evs, retvs, tupOf, grab, vfill, vbsl, eqCells, eqCell, veqs, veqs1, vmnx, AV.isCell, AV.isUndef, Nat.reduceEqDiff, Nat.reduceAdd, Nat.reduceSub, Nat.reduceLeDiff, Nat.reduceLT, reduceIte, reduceCtorEq, Nat.reduceBEq, k_app, k_slc1]
  (repeat' (first | (simp (config := { maxDischargeDepth := 16 }) only [*, num, vX, Int.reduceLE, Int.reduceLT, Int.reduceGE, Int.reduceGT, Int.reduceBEq, Int.reduceBNe, Int.reduceAdd, Int.reduceSub, Int.reduceMul, Int.reduceNeg, ↓vD, vU, ↓vMd, vMu, VE.ev, VE.evs, retvs, tupOf, grab, vfill, vbsl, eqCells, eqCell, veqs, veqs1, vmnx, AV.isCell, AV.isUndef, Nat.reduceEqDiff, Nat.reduceAdd, Nat.reduceSub, Nat.reduceLeDiff, Nat.reduceLT, reduceIte, reduceCtorEq, Nat.reduceBEq]) | (simp (disch := first | assumption | omega | exact Seg.len _ | exact Vec.len _ | exact Leg.len _ | exact num_len _ | exact rowA_len _ | exact rowA_len | exact rowT_len _ | exact rowT_len | exact Seg.len | exact Vec.len | exact Leg.len | exact num_len | exact AV.slen _ _ | rfl) only [num, vP]) | (with_reducible (first | refine gsnd (fun _ => ?_) (fun _ => ?_) | refine csnd (fun _ => ?_) (fun _ => ?_) | refine gsd (fun _ => ?_) (fun _ => ?_) | refine csd (fun _ => ?_) (fun _ => ?_) | refine gsn (fun _ => ?_) (fun _ => ?_) | refine csn (fun _ => ?_) (fun _ => ?_))) | (with_reducible refine gs (fun _ => ?_) (fun _ => ?_)) | (with_reducible refine cs_ (fun _ => ?_) (fun _ => ?_)) | (with_reducible refine objQ_i (fun _ _ => ?_); (repeat (with_reducible refine imp_i (fun _ => ?_)))) | ((try with_reducible refine appK_a ?_); first | (with_reducible refine appD_F (by refine ⟨?_, ?_, ?_, ?_⟩ <;> (first | assumption | omega | exact St.has_add (by assumption) | (simp only [ins_has]; exact St.has_add (by assumption)) | (simp only [ins_has, fresh_ins, kill_ins, add_ins] at *; exact St.has_add (by assumption)) | (simp only [*, ins_has, has_full, St.has_add]; done) | (simp [-List.map_take, -List.map_drop, or_imp, forall_and, Seg.a, Vec.a, Leg.a, num, okEl, cells_agg, cells_int, cells_sl, cells_bool, AV.isCell]; done) | (simp; omega))) (fun _ _ => ?_)) | (with_reducible refine appD_V (by refine ⟨?_, ?_, ?_, ?_, ?_⟩ <;> (first | assumption | omega | exact St.has_add (by assumption) | (simp only [ins_has]; exact St.has_add (by assumption)) | (simp only [ins_has, fresh_ins, kill_ins, add_ins] at *; exact St.has_add (by assumption)) | (simp only [*, ins_has, has_full, St.has_add]; done) | (simp [-List.map_take, -List.map_drop, or_imp, forall_and, Seg.a, Vec.a, Leg.a, num, okEl, cells_agg, cells_int, cells_sl, cells_bool, AV.isCell]; done) | (simp; omega))) (fun _ _ => ?_))) | (with_reducible refine freshQ_i (fun _ _ => ?_)) | (with_reducible refine nilQ_i (fun _ _ => ?_))))
  refine loopp_of (len := r.length) (by simp only [asgL, dsts, List.cons_append, List.nil_append, List.append_nil]; rfl) (by simp only [noR, Bool.and_true, Bool.and_false]; rfl) (by omega) (fun k fr => fr.t 4 = .int .i64 ((k : Int) + 1) ∧ fr.t 3 = .int .i64 ((r.take k).foldl max x)) ?_ ?_ ?_
  · simp [↓vD, vU, ↓vMd, vMu, VE.ev, VE.evs, retvs, tupOf, grab, vfill, vbsl, eqCells, eqCell, veqs, veqs1, vmnx, AV.isCell, AV.isUndef, Nat.reduceEqDiff, Nat.reduceAdd, Nat.reduceSub, Nat.reduceLeDiff, Nat.reduceLT, reduceIte, reduceCtorEq, Nat.reduceBEq, k_app, k_slc1]
  · rintro k fr hk hw hfr hd ⟨h4, h3⟩
    have hg := HS.out k hk
    obtain ⟨y, hy⟩ : ∃ y, r[k]! = y := ⟨_, rfl⟩
    rw [hy] at hg
    have hfold : (r.take (k + 1)).foldl max x = max ((r.take k).foldl max x) y := by
      rw [List.take_add_one, List.getElem?_eq_getElem hk, List.foldl_append, ← hy, getElem!_pos r k hk]; rfl
    have hw2 : IntKind.i64.wrap ((k : Int) + 1 + 1) = (k : Int) + 1 + 1 := wrap_i64 _ (by omega) (by omega)
    (repeat' (first | (simp (config := { maxDischargeDepth := 16 }) only [*, num, toNat_succ, vmax2, vX, Int.reduceLE, Int.reduceLT, Int.reduceGE, Int.reduceGT, Int.reduceBEq, Int.reduceBNe, Int.reduceAdd, Int.reduceSub, Int.reduceMul, Int.reduceNeg, ↓vD, vU, ↓vMd, vMu, VE.ev, VE.evs, retvs, tupOf, grab, vfill, vbsl, eqCells, eqCell, veqs, veqs1, vmnx, AV.isCell, AV.isUndef, Nat.reduceEqDiff, Nat.reduceAdd, Nat.reduceSub, Nat.reduceLeDiff, Nat.reduceLT, reduceIte, reduceCtorEq, Nat.reduceBEq]) | (simp (disch := first | assumption | omega | exact Seg.len _ | exact Vec.len _ | exact Leg.len _ | exact num_len _ | exact rowA_len _ | exact rowA_len | exact rowT_len _ | exact rowT_len | exact Seg.len | exact Vec.len | exact Leg.len | exact num_len | exact AV.slen _ _ | rfl) only [num, toNat_succ, vmax2, vP]) | (with_reducible (first | refine gsnd (fun _ => ?_) (fun _ => ?_) | refine csnd (fun _ => ?_) (fun _ => ?_) | refine gsd (fun _ => ?_) (fun _ => ?_) | refine csd (fun _ => ?_) (fun _ => ?_) | refine gsn (fun _ => ?_) (fun _ => ?_) | refine csn (fun _ => ?_) (fun _ => ?_))) | (with_reducible refine gs (fun _ => ?_) (fun _ => ?_)) | (with_reducible refine cs_ (fun _ => ?_) (fun _ => ?_)) | (with_reducible refine objQ_i (fun _ _ => ?_); (repeat (with_reducible refine imp_i (fun _ => ?_)))) | ((try with_reducible refine appK_a ?_); first | (with_reducible refine appD_F (by refine ⟨?_, ?_, ?_, ?_⟩ <;> (first | assumption | omega | exact St.has_add (by assumption) | (simp only [ins_has]; exact St.has_add (by assumption)) | (simp only [ins_has, fresh_ins, kill_ins, add_ins] at *; exact St.has_add (by assumption)) | (simp only [*, ins_has, has_full, St.has_add]; done) | (simp [-List.map_take, -List.map_drop, or_imp, forall_and, Seg.a, Vec.a, Leg.a, num, okEl, cells_agg, cells_int, cells_sl, cells_bool, AV.isCell]; done) | (simp; omega))) (fun _ _ => ?_)) | (with_reducible refine appD_V (by refine ⟨?_, ?_, ?_, ?_, ?_⟩ <;> (first | assumption | omega | exact St.has_add (by assumption) | (simp only [ins_has]; exact St.has_add (by assumption)) | (simp only [ins_has, fresh_ins, kill_ins, add_ins] at *; exact St.has_add (by assumption)) | (simp only [*, ins_has, has_full, St.has_add]; done) | (simp [-List.map_take, -List.map_drop, or_imp, forall_and, Seg.a, Vec.a, Leg.a, num, okEl, cells_agg, cells_int, cells_sl, cells_bool, AV.isCell]; done) | (simp; omega))) (fun _ _ => ?_))) | (with_reducible refine freshQ_i (fun _ _ => ?_)) | (with_reducible refine nilQ_i (fun _ _ => ?_))))
  · rintro fr hfr hd ⟨h4, h3⟩
    rw [List.take_length] at h3
    (repeat' (first | (simp (config := { maxDischargeDepth := 16 }) only [*, num, vX, Int.reduceLE, Int.reduceLT, Int.reduceGE, Int.reduceGT, Int.reduceBEq, Int.reduceBNe, Int.reduceAdd, Int.reduceSub, Int.reduceMul, Int.reduceNeg, ↓vD, vU, ↓vMd, vMu, VE.ev, VE.evs, retvs, tupOf, grab, vfill, vbsl, eqCells, eqCell, veqs, veqs1, vmnx, AV.isCell, AV.isUndef, Nat.reduceEqDiff, Nat.reduceAdd, Nat.reduceSub, Nat.reduceLeDiff, Nat.reduceLT, reduceIte, reduceCtorEq, Nat.reduceBEq]) | (simp (disch := first | assumption | omega | exact Seg.len _ | exact Vec.len _ | exact Leg.len _ | exact num_len _ | exact rowA_len _ | exact rowA_len | exact rowT_len _ | exact rowT_len | exact Seg.len | exact Vec.len | exact Leg.len | exact num_len | exact AV.slen _ _ | rfl) only [num, vP]) | (with_reducible (first | refine gsnd (fun _ => ?_) (fun _ => ?_) | refine csnd (fun _ => ?_) (fun _ => ?_) | refine gsd (fun _ => ?_) (fun _ => ?_) | refine csd (fun _ => ?_) (fun _ => ?_) | refine gsn (fun _ => ?_) (fun _ => ?_) | refine csn (fun _ => ?_) (fun _ => ?_))) | (with_reducible refine gs (fun _ => ?_) (fun _ => ?_)) | (with_reducible refine cs_ (fun _ => ?_) (fun _ => ?_)) | (with_reducible refine objQ_i (fun _ _ => ?_); (repeat (with_reducible refine imp_i (fun _ => ?_)))) | ((try with_reducible refine appK_a ?_); first | (with_reducible refine appD_F (by refine ⟨?_, ?_, ?_, ?_⟩ <;> (first | assumption | omega | exact St.has_add (by assumption) | (simp only [ins_has]; exact St.has_add (by assumption)) | (simp only [ins_has, fresh_ins, kill_ins, add_ins] at *; exact St.has_add (by assumption)) | (simp only [*, ins_has, has_full, St.has_add]; done) | (simp [-List.map_take, -List.map_drop, or_imp, forall_and, Seg.a, Vec.a, Leg.a, num, okEl, cells_agg, cells_int, cells_sl, cells_bool, AV.isCell]; done) | (simp; omega))) (fun _ _ => ?_)) | (with_reducible refine appD_V (by refine ⟨?_, ?_, ?_, ?_, ?_⟩ <;> (first | assumption | omega | exact St.has_add (by assumption) | (simp only [ins_has]; exact St.has_add (by assumption)) | (simp only [ins_has, fresh_ins, kill_ins, add_ins] at *; exact St.has_add (by assumption)) | (simp only [*, ins_has, has_full, St.has_add]; done) | (simp [-List.map_take, -List.map_drop, or_imp, forall_and, Seg.a, Vec.a, Leg.a, num, okEl, cells_agg, cells_int, cells_sl, cells_bool, AV.isCell]; done) | (simp; omega))) (fun _ _ => ?_))) | (with_reducible refine freshQ_i (fun _ _ => ?_)) | (with_reducible refine nilQ_i (fun _ _ => ?_))))
theorem in2_v (a z : Int) (t : Tok) : VPure Tryd.prog 90 [.sl [.int .i64 a, .int .i64 z] t] (.bool (decide (-1125899906842624 ≤ min a z) && decide (max a z ≤ 1125899906842624))) := by
  have h1 := MinI_v a [z] (by simp) t
  have h2 := MaxI_v a [z] (by simp) t
  simp only [List.map_cons, List.map_nil, num, List.foldl_cons, List.foldl_nil] at h1 h2
  refine VPure.of v_span_in_ok (Nat.le_of_ble_eq_true rfl) (fun Z st => ?_)
  simp only [v_span_in, ↓vD, vU, ↓vMd, vMu, VE.ev, VE.evs, retvs, tupOf, grab, vfill, vbsl, eqCells, eqCell, veqs, veqs1, vmnx, AV.isCell, AV.isUndef, Nat.reduceEqDiff, Nat.reduceAdd, Nat.reduceSub, Nat.reduceLeDiff, Nat.reduceLT, reduceIte, reduceCtorEq, Nat.reduceBEq, k_app, k_slc1]
  (repeat' (first | (simp (config := { maxDischargeDepth := 16 }) only [*, vX, Int.reduceLE, Int.reduceLT, Int.reduceGE, Int.reduceGT, Int.reduceBEq, Int.reduceBNe, Int.reduceAdd, Int.reduceSub, Int.reduceMul, Int.reduceNeg, ↓vD, vU, ↓vMd, vMu, VE.ev, VE.evs, retvs, tupOf, grab, vfill, vbsl, eqCells, eqCell, veqs, veqs1, vmnx, AV.isCell, AV.isUndef, Nat.reduceEqDiff, Nat.reduceAdd, Nat.reduceSub, Nat.reduceLeDiff, Nat.reduceLT, reduceIte, reduceCtorEq, Nat.reduceBEq]) | (simp (disch := first | assumption | omega | exact Seg.len _ | exact Vec.len _ | exact Leg.len _ | exact num_len _ | exact rowA_len _ | exact rowA_len | exact rowT_len _ | exact rowT_len | exact Seg.len | exact Vec.len | exact Leg.len | exact num_len | exact AV.slen _ _ | rfl) only [vP]) | (with_reducible (first | refine gsnd (fun _ => ?_) (fun _ => ?_) | refine csnd (fun _ => ?_) (fun _ => ?_) | refine gsd (fun _ => ?_) (fun _ => ?_) | refine csd (fun _ => ?_) (fun _ => ?_) | refine gsn (fun _ => ?_) (fun _ => ?_) | refine csn (fun _ => ?_) (fun _ => ?_))) | (with_reducible refine gs (fun _ => ?_) (fun _ => ?_)) | (with_reducible refine cs_ (fun _ => ?_) (fun _ => ?_)) | (with_reducible refine objQ_i (fun _ _ => ?_); (repeat (with_reducible refine imp_i (fun _ => ?_)))) | ((try with_reducible refine appK_a ?_); first | (with_reducible refine appD_F (by refine ⟨?_, ?_, ?_, ?_⟩ <;> (first | assumption | omega | exact St.has_add (by assumption) | (simp only [ins_has]; exact St.has_add (by assumption)) | (simp only [ins_has, fresh_ins, kill_ins, add_ins] at *; exact St.has_add (by assumption)) | (simp only [*, ins_has, has_full, St.has_add]; done) | (simp [-List.map_take, -List.map_drop, or_imp, forall_and, Seg.a, Vec.a, Leg.a, num, okEl, cells_agg, cells_int, cells_sl, cells_bool, AV.isCell]; done) | (simp; omega))) (fun _ _ => ?_)) | (with_reducible refine appD_V (by refine ⟨?_, ?_, ?_, ?_, ?_⟩ <;> (first | assumption | omega | exact St.has_add (by assumption) | (simp only [ins_has]; exact St.has_add (by assumption)) | (simp only [ins_has, fresh_ins, kill_ins, add_ins] at *; exact St.has_add (by assumption)) | (simp only [*, ins_has, has_full, St.has_add]; done) | (simp [-List.map_take, -List.map_drop, or_imp, forall_and, Seg.a, Vec.a, Leg.a, num, okEl, cells_agg, cells_int, cells_sl, cells_bool, AV.isCell]; done) | (simp; omega))) (fun _ _ => ?_))) | (with_reducible refine freshQ_i (fun _ _ => ?_)) | (with_reducible refine nilQ_i (fun _ _ => ?_)) | (with_reducible first | refine callH_use (h1) ?_ | refine pureQ_use (h1) ?_) | (with_reducible first | refine callH_use (h2) ?_ | refine pureQ_use (h2) ?_)))
  (all_goals (first | rfl | (simp_all; done) | (simp_all <;> omega)))
def runA (q : Vec × Int) : AV := .agg [.int .i64 q.1.m, .int .i64 q.1.c, .int .i64 q.2]
theorem runs_c (f : List Seg) (a z : Int) (t : Tok) : VPure Tryd.prog 91 [.sl (f.map Seg.a) t, num a, num z] (.clo 97 [] [.iptr (num a) 0, .iptr (.sl (f.map Seg.a) t) 0, .iptr (num z) 0]) := fun Z st => by
  have h : VCalls Tryd.prog Z 91 [.sl (f.map Seg.a) t, num a, num z] st (fun r s => ∃ bf ba bz, st.objs bf = none ∧ st.objs ba = none ∧ st.objs bz = none ∧ ¬ ba = bf ∧ ¬ bz = bf ∧ ¬ bz = ba ∧ r = .clo 97 [] [.ptr ba 0, .ptr bf 0, .ptr bz 0] ∧
      s = ((st.ins bf (.cells [.sl (f.map Seg.a) t])).ins ba (.cells [.int .i64 a])).ins bz (.cells [.int .i64 z])) := by
    refine VCalls.of v_span_runs_ok (Nat.le_of_ble_eq_true rfl) ?_
    simp only [v_span_runs, ↓vD, vU, ↓vMd, vMu, VE.ev, VE.evs, retvs, tupOf, grab, vfill, vbsl, eqCells, eqCell, veqs, veqs1, vmnx, AV.isCell, AV.isUndef, Nat.reduceEqDiff, Nat.reduceAdd, Nat.reduceSub, Nat.reduceLeDiff, Nat.reduceLT, reduceIte, reduceCtorEq, Nat.reduceBEq, k_app, k_slc1]
    (repeat' (first | (simp (config := { maxDischargeDepth := 16 }) only [*, num, vX, Int.reduceLE, Int.reduceLT, Int.reduceGE, Int.reduceGT, Int.reduceBEq, Int.reduceBNe, Int.reduceAdd, Int.reduceSub, Int.reduceMul, Int.reduceNeg, ↓vD, vU, ↓vMd, vMu, VE.ev, VE.evs, retvs, tupOf, grab, vfill, vbsl, eqCells, eqCell, veqs, veqs1, vmnx, AV.isCell, AV.isUndef, Nat.reduceEqDiff, Nat.reduceAdd, Nat.reduceSub, Nat.reduceLeDiff, Nat.reduceLT, reduceIte, reduceCtorEq, Nat.reduceBEq]) | (simp (disch := first | assumption | omega | exact Seg.len _ | exact Vec.len _ | exact Leg.len _ | exact num_len _ | exact rowA_len _ | exact rowA_len | exact rowT_len _ | exact rowT_len | exact Seg.len | exact Vec.len | exact Leg.len | exact num_len | exact AV.slen _ _ | rfl) only [num, vP]) | (with_reducible (first | refine gsnd (fun _ => ?_) (fun _ => ?_) | refine csnd (fun _ => ?_) (fun _ => ?_) | refine gsd (fun _ => ?_) (fun _ => ?_) | refine csd (fun _ => ?_) (fun _ => ?_) | refine gsn (fun _ => ?_) (fun _ => ?_) | refine csn (fun _ => ?_) (fun _ => ?_))) | (with_reducible refine gs (fun _ => ?_) (fun _ => ?_)) | (with_reducible refine cs_ (fun _ => ?_) (fun _ => ?_)) | (with_reducible refine objQ_i (fun _ _ => ?_); (repeat (with_reducible refine imp_i (fun _ => ?_)))) | ((try with_reducible refine appK_a ?_); first | (with_reducible refine appD_F (by refine ⟨?_, ?_, ?_, ?_⟩ <;> (first | assumption | omega | exact St.has_add (by assumption) | (simp only [ins_has]; exact St.has_add (by assumption)) | (simp only [ins_has, fresh_ins, kill_ins, add_ins] at *; exact St.has_add (by assumption)) | (simp only [*, ins_has, has_full, St.has_add]; done) | (simp [-List.map_take, -List.map_drop, or_imp, forall_and, Seg.a, Vec.a, Leg.a, num, okEl, cells_agg, cells_int, cells_sl, cells_bool, AV.isCell]; done) | (simp; omega))) (fun _ _ => ?_)) | (with_reducible refine appD_V (by refine ⟨?_, ?_, ?_, ?_, ?_⟩ <;> (first | assumption | omega | exact St.has_add (by assumption) | (simp only [ins_has]; exact St.has_add (by assumption)) | (simp only [ins_has, fresh_ins, kill_ins, add_ins] at *; exact St.has_add (by assumption)) | (simp only [*, ins_has, has_full, St.has_add]; done) | (simp [-List.map_take, -List.map_drop, or_imp, forall_and, Seg.a, Vec.a, Leg.a, num, okEl, cells_agg, cells_int, cells_sl, cells_bool, AV.isCell]; done) | (simp; omega))) (fun _ _ => ?_))) | (with_reducible refine freshQ_i (fun _ _ => ?_)) | (with_reducible refine nilQ_i (fun _ _ => ?_))))
    rename_i bf hf ba ha n1 n2 bz hz n3 n4 n5 n6
    exact ⟨_, St.le.refl _, bf, ba, bz, hf, ha, hz, n1, n3, n5, rfl, rfl⟩
  refine h.wk ?_
  rintro _ _ ⟨bf, ba, bz, hf, ha, hz, n1, n2, n3, rfl, rfl⟩
  have n1' : ¬ bf = ba := fun e => n1 e.symm
  have n2' : ¬ bf = bz := fun e => n2 e.symm
  have n3' : ¬ ba = bz := fun e => n3 e.symm
  (refine ⟨_, st, (Wk.fz _ (b := ba) (x := num a) (by first | (simp only [St.ins, St.del, *, if_true, if_false, eq_self, not_false_eq_true, ite_true, ite_false]; first | done | rfl) | (simp [St.ins, St.del, *]; done) | (simp [St.ins, St.del, *]; rfl)) (by first | rfl | simp [okEl, AV.cells, AV.isCell]) (by first | exact Nat.zero_lt_succ _ | simp [AV.cells]) _).trans ((Wk.fz _ (b := bf) (x := .sl (f.map Seg.a) t) (by first | (simp only [St.ins, St.del, *, if_true, if_false, eq_self, not_false_eq_true, ite_true, ite_false]; first | done | rfl) | (simp [St.ins, St.del, *]; done) | (simp [St.ins, St.del, *]; rfl)) (by first | rfl | simp [okEl, AV.cells, AV.isCell]) (by first | exact Nat.zero_lt_succ _ | simp [AV.cells]) _).trans ((Wk.fz _ (b := bz) (x := num z) (by first | (simp only [St.ins, St.del, *, if_true, if_false, eq_self, not_false_eq_true, ite_true, ite_false]; first | done | rfl) | (simp [St.ins, St.del, *]; done) | (simp [St.ins, St.del, *]; rfl)) (by first | rfl | simp [okEl, AV.cells, AV.isCell]) (by first | exact Nat.zero_lt_succ _ | simp [AV.cells]) _).trans (Wk.le (by (refine ⟨fun i o e => ?_, fun _ h => h⟩; revert e; simp only [St.ins, St.del, add_objs, kill_objs]; (repeat' split); all_goals (first | exact id | (intros; contradiction) | (intros; subst_vars; contradiction) | (intros; simp_all; done) | (intros; subst_vars; simp_all; done)))) _))), ?_⟩; simp only [AV.sub, AV.subL, *, if_true, if_false, eq_self, ite_true, ite_false])
  try exact ⟨trivial, trivial⟩
theorem runs_it (f : List Seg) (hn : f.length ≤ 1000000000) (a z : Int) (ha : -1125899906842624 ≤ a) (hz : z ≤ 1125899906842624) (haz : a < z) (t : Tok) : VIter Tryd.prog 97 [] [.iptr (num a) 0, .iptr (.sl (f.map Seg.a) t) 0, .iptr (num z) 0] ((runsF f a z).map fun b => [runA b]) := by
  intro Y l I E S0 h0 hy
  obtain ⟨L, hL⟩ : ∃ L, runsF f a z = L := ⟨_, rfl⟩
  simp only [hL, List.length_map, List.getElem_map] at hy ⊢
  have hAt := At_v f (by omega) t a
  obtain ⟨u0, hu0⟩ : ∃ u, atF f a = u := ⟨_, rfl⟩
  rw [hu0] at hAt
  have HL : Hid (L = runsGo a z f a u0) := ⟨by rw [← hL, ← hu0]; rfl⟩
  have HY : Hid (∀ k it r, L.drop k = it :: r → ∀ S, I k S → VYield Tryd.prog Y l [runA it] S (YY I E k)) := ⟨fun k it r h => by
    obtain ⟨hk, rfl, _⟩ := drop_cons h
    exact hy k hk⟩
  clear hL hu0 hy
  refine VCalls.of v_span_runs_1_ok (Nat.le_of_ble_eq_true rfl) ?_
  simp only [v_span_runs_1, List.nil_append, List.cons_append, ↓vD, vU, ↓vMd, vMu, VE.ev, VE.evs, retvs, tupOf, grab, vfill, vbsl, eqCells, eqCell, veqs, veqs1, vmnx, AV.isCell, AV.isUndef, Nat.reduceEqDiff, Nat.reduceAdd, Nat.reduceSub, Nat.reduceLeDiff, Nat.reduceLT, reduceIte, reduceCtorEq, Nat.reduceBEq, k_app, k_slc1]
  (repeat' (first | (simp (config := { maxDischargeDepth := 16 }) only [*, num, vX, Int.reduceLE, Int.reduceLT, Int.reduceGE, Int.reduceGT, Int.reduceBEq, Int.reduceBNe, Int.reduceAdd, Int.reduceSub, Int.reduceMul, Int.reduceNeg, ↓vD, vU, ↓vMd, vMu, VE.ev, VE.evs, retvs, tupOf, grab, vfill, vbsl, eqCells, eqCell, veqs, veqs1, vmnx, AV.isCell, AV.isUndef, Nat.reduceEqDiff, Nat.reduceAdd, Nat.reduceSub, Nat.reduceLeDiff, Nat.reduceLT, reduceIte, reduceCtorEq, Nat.reduceBEq]) | (simp (disch := first | assumption | omega | exact Seg.len _ | exact Vec.len _ | exact Leg.len _ | exact num_len _ | exact rowA_len _ | exact rowA_len | exact rowT_len _ | exact rowT_len | exact Seg.len | exact Vec.len | exact Leg.len | exact num_len | exact AV.slen _ _ | rfl) only [num, vP]) | (with_reducible (first | refine gsnd (fun _ => ?_) (fun _ => ?_) | refine csnd (fun _ => ?_) (fun _ => ?_) | refine gsd (fun _ => ?_) (fun _ => ?_) | refine csd (fun _ => ?_) (fun _ => ?_) | refine gsn (fun _ => ?_) (fun _ => ?_) | refine csn (fun _ => ?_) (fun _ => ?_))) | (with_reducible refine gs (fun _ => ?_) (fun _ => ?_)) | (with_reducible refine cs_ (fun _ => ?_) (fun _ => ?_)) | (with_reducible refine objQ_i (fun _ _ => ?_); (repeat (with_reducible refine imp_i (fun _ => ?_)))) | ((try with_reducible refine appK_a ?_); first | (with_reducible refine appD_F (by refine ⟨?_, ?_, ?_, ?_⟩ <;> (first | assumption | omega | exact St.has_add (by assumption) | (simp only [ins_has]; exact St.has_add (by assumption)) | (simp only [ins_has, fresh_ins, kill_ins, add_ins] at *; exact St.has_add (by assumption)) | (simp only [*, ins_has, has_full, St.has_add]; done) | (simp [-List.map_take, -List.map_drop, or_imp, forall_and, Seg.a, Vec.a, Leg.a, num, okEl, cells_agg, cells_int, cells_sl, cells_bool, AV.isCell]; done) | (simp; omega))) (fun _ _ => ?_)) | (with_reducible refine appD_V (by refine ⟨?_, ?_, ?_, ?_, ?_⟩ <;> (first | assumption | omega | exact St.has_add (by assumption) | (simp only [ins_has]; exact St.has_add (by assumption)) | (simp only [ins_has, fresh_ins, kill_ins, add_ins] at *; exact St.has_add (by assumption)) | (simp only [*, ins_has, has_full, St.has_add]; done) | (simp [-List.map_take, -List.map_drop, or_imp, forall_and, Seg.a, Vec.a, Leg.a, num, okEl, cells_agg, cells_int, cells_sl, cells_bool, AV.isCell]; done) | (simp; omega))) (fun _ _ => ?_))) | (with_reducible refine freshQ_i (fun _ _ => ?_)) | (with_reducible refine nilQ_i (fun _ _ => ?_)) | (with_reducible first | refine callH_use (hAt) ?_ | refine pureQ_use (hAt) ?_)))
  rename_i b6 h6
  refine loopf_of (len := f.length) (by simp only [asgL, dsts, List.cons_append, List.nil_append, List.append_nil]; rfl) (by simp only [noR, Bool.and_true, Bool.and_false]; rfl) (by omega) (fun k fr s => ∃ (j : Nat) (p : Int) (u : Vec) (S : St), s = S.ins b6 (.cells [.int .i64 u.m, .int .i64 u.c])
    ∧ fr.t 15 = .int .i64 k ∧ fr.t 5 = .int .i64 p ∧ I j S ∧ S.objs b6 = none ∧ j ≤ L.length ∧ (a ≤ p ∧ p ≤ z) ∧ Hid (L.drop j = runsGo a z (f.drop k) p u)) ?_ ?_ ?_
  · exact ⟨0, a, u0, S0, rfl, by simp [↓vD, vU, ↓vMd, vMu, VE.ev, VE.evs, retvs, tupOf, grab, vfill, vbsl, eqCells, eqCell, veqs, veqs1, vmnx, AV.isCell, AV.isUndef, Nat.reduceEqDiff, Nat.reduceAdd, Nat.reduceSub, Nat.reduceLeDiff, Nat.reduceLT, reduceIte, reduceCtorEq, Nat.reduceBEq, k_app, k_slc1], by simp [↓vD, vU, ↓vMd, vMu, VE.ev, VE.evs, retvs, tupOf, grab, vfill, vbsl, eqCells, eqCell, veqs, veqs1, vmnx, AV.isCell, AV.isUndef, Nat.reduceEqDiff, Nat.reduceAdd, Nat.reduceSub, Nat.reduceLeDiff, Nat.reduceLT, reduceIte, reduceCtorEq, Nat.reduceBEq, k_app, k_slc1], h0, h6, by omega, by omega, ⟨by rw [HL.out]; rfl⟩⟩
  · rintro k fr s hk hwr hfr hd ⟨j, p, u, S, rfl, h15, h5, hI, hS6, hj, hp, HK⟩
    obtain ⟨x, hx⟩ : ∃ x, f[k] = x := ⟨_, rfl⟩
    have hdr : f.drop k = x :: f.drop (k + 1) := by rw [List.drop_eq_getElem_cons hk, hx]
    have hK := HK.out
    rw [hdr, runsGo] at hK
    by_cases hskip : x.t ≤ a ∨ z ≤ x.t
    · have HN : Hid (L.drop j = runsGo a z (f.drop (k + 1)) p u) := ⟨by rw [hK, if_pos hskip]⟩
      clear hK hdr HK
      (repeat' (first | (simp (config := { maxDischargeDepth := 16 }) only [*, num, Seg.a, vX, Int.reduceLE, Int.reduceLT, Int.reduceGE, Int.reduceGT, Int.reduceBEq, Int.reduceBNe, Int.reduceAdd, Int.reduceSub, Int.reduceMul, Int.reduceNeg, ↓vD, vU, ↓vMd, vMu, VE.ev, VE.evs, retvs, tupOf, grab, vfill, vbsl, eqCells, eqCell, veqs, veqs1, vmnx, AV.isCell, AV.isUndef, Nat.reduceEqDiff, Nat.reduceAdd, Nat.reduceSub, Nat.reduceLeDiff, Nat.reduceLT, reduceIte, reduceCtorEq, Nat.reduceBEq]) | (simp (disch := first | assumption | omega | exact Seg.len _ | exact Vec.len _ | exact Leg.len _ | exact num_len _ | exact rowA_len _ | exact rowA_len | exact rowT_len _ | exact rowT_len | exact Seg.len | exact Vec.len | exact Leg.len | exact num_len | exact AV.slen _ _ | rfl) only [num, Seg.a, vP]) | (with_reducible (first | refine gsnd (fun _ => ?_) (fun _ => ?_) | refine csnd (fun _ => ?_) (fun _ => ?_) | refine gsd (fun _ => ?_) (fun _ => ?_) | refine csd (fun _ => ?_) (fun _ => ?_) | refine gsn (fun _ => ?_) (fun _ => ?_) | refine csn (fun _ => ?_) (fun _ => ?_))) | (with_reducible refine gs (fun _ => ?_) (fun _ => ?_)) | (with_reducible refine cs_ (fun _ => ?_) (fun _ => ?_)) | (with_reducible refine objQ_i (fun _ _ => ?_); (repeat (with_reducible refine imp_i (fun _ => ?_)))) | ((try with_reducible refine appK_a ?_); first | (with_reducible refine appD_F (by refine ⟨?_, ?_, ?_, ?_⟩ <;> (first | assumption | omega | exact St.has_add (by assumption) | (simp only [ins_has]; exact St.has_add (by assumption)) | (simp only [ins_has, fresh_ins, kill_ins, add_ins] at *; exact St.has_add (by assumption)) | (simp only [*, ins_has, has_full, St.has_add]; done) | (simp [-List.map_take, -List.map_drop, or_imp, forall_and, Seg.a, Vec.a, Leg.a, num, okEl, cells_agg, cells_int, cells_sl, cells_bool, AV.isCell]; done) | (simp; omega))) (fun _ _ => ?_)) | (with_reducible refine appD_V (by refine ⟨?_, ?_, ?_, ?_, ?_⟩ <;> (first | assumption | omega | exact St.has_add (by assumption) | (simp only [ins_has]; exact St.has_add (by assumption)) | (simp only [ins_has, fresh_ins, kill_ins, add_ins] at *; exact St.has_add (by assumption)) | (simp only [*, ins_has, has_full, St.has_add]; done) | (simp [-List.map_take, -List.map_drop, or_imp, forall_and, Seg.a, Vec.a, Leg.a, num, okEl, cells_agg, cells_int, cells_sl, cells_bool, AV.isCell]; done) | (simp; omega))) (fun _ _ => ?_))) | (with_reducible refine freshQ_i (fun _ _ => ?_)) | (with_reducible refine nilQ_i (fun _ _ => ?_))))
      all_goals first | exact ⟨_, by (refine ⟨fun i o e => ?_, fun _ h => h⟩; revert e; simp only [St.ins, St.del, add_objs, kill_objs]; (repeat' split); all_goals (first | exact id | (intros; contradiction) | (intros; subst_vars; contradiction) | (intros; simp_all; done) | (intros; subst_vars; simp_all; done))), j, p, u, S, rfl, rfl, hI, hS6, hj, hp, HN⟩ | omega
    · rw [if_neg hskip] at hK
      have HN : Hid (L.drop j = (u, x.t - p) :: runsGo a z (f.drop (k + 1)) x.t x.v) := ⟨hK⟩
      clear hK hdr HK
      (repeat' (first | (simp (config := { maxDischargeDepth := 16 }) only [*, num, Seg.a, vX, Int.reduceLE, Int.reduceLT, Int.reduceGE, Int.reduceGT, Int.reduceBEq, Int.reduceBNe, Int.reduceAdd, Int.reduceSub, Int.reduceMul, Int.reduceNeg, ↓vD, vU, ↓vMd, vMu, VE.ev, VE.evs, retvs, tupOf, grab, vfill, vbsl, eqCells, eqCell, veqs, veqs1, vmnx, AV.isCell, AV.isUndef, Nat.reduceEqDiff, Nat.reduceAdd, Nat.reduceSub, Nat.reduceLeDiff, Nat.reduceLT, reduceIte, reduceCtorEq, Nat.reduceBEq]) | (simp (disch := first | assumption | omega | exact Seg.len _ | exact Vec.len _ | exact Leg.len _ | exact num_len _ | exact rowA_len _ | exact rowA_len | exact rowT_len _ | exact rowT_len | exact Seg.len | exact Vec.len | exact Leg.len | exact num_len | exact AV.slen _ _ | rfl) only [num, Seg.a, vP]) | (with_reducible (first | refine gsnd (fun _ => ?_) (fun _ => ?_) | refine csnd (fun _ => ?_) (fun _ => ?_) | refine gsd (fun _ => ?_) (fun _ => ?_) | refine csd (fun _ => ?_) (fun _ => ?_) | refine gsn (fun _ => ?_) (fun _ => ?_) | refine csn (fun _ => ?_) (fun _ => ?_))) | (with_reducible refine gs (fun _ => ?_) (fun _ => ?_)) | (with_reducible refine cs_ (fun _ => ?_) (fun _ => ?_)) | (with_reducible refine objQ_i (fun _ _ => ?_); (repeat (with_reducible refine imp_i (fun _ => ?_)))) | ((try with_reducible refine appK_a ?_); first | (with_reducible refine appD_F (by refine ⟨?_, ?_, ?_, ?_⟩ <;> (first | assumption | omega | exact St.has_add (by assumption) | (simp only [ins_has]; exact St.has_add (by assumption)) | (simp only [ins_has, fresh_ins, kill_ins, add_ins] at *; exact St.has_add (by assumption)) | (simp only [*, ins_has, has_full, St.has_add]; done) | (simp [-List.map_take, -List.map_drop, or_imp, forall_and, Seg.a, Vec.a, Leg.a, num, okEl, cells_agg, cells_int, cells_sl, cells_bool, AV.isCell]; done) | (simp; omega))) (fun _ _ => ?_)) | (with_reducible refine appD_V (by refine ⟨?_, ?_, ?_, ?_, ?_⟩ <;> (first | assumption | omega | exact St.has_add (by assumption) | (simp only [ins_has]; exact St.has_add (by assumption)) | (simp only [ins_has, fresh_ins, kill_ins, add_ins] at *; exact St.has_add (by assumption)) | (simp only [*, ins_has, has_full, St.has_add]; done) | (simp [-List.map_take, -List.map_drop, or_imp, forall_and, Seg.a, Vec.a, Leg.a, num, okEl, cells_agg, cells_int, cells_sl, cells_bool, AV.isCell]; done) | (simp; omega))) (fun _ _ => ?_))) | (with_reducible refine freshQ_i (fun _ _ => ?_)) | (with_reducible refine nilQ_i (fun _ _ => ?_))))
      rename_i b8 h8 n86 n68
      refine yieldH_then (((HY.out j _ _ HN.out S hI).frame b6 _ hS6).frame b8 _ (by simp only [ins_objs, kill_objs, add_objs, *, if_false, if_true, not_false_eq_true, ite_some_none, and_self, and_true, true_and])) rfl ?_
      rintro _ _ ⟨_, ⟨s0, hyy, q6, rfl⟩, q8, rfl⟩
      obtain ⟨hj2, _, hd2⟩ := drop_cons HN.out
      have q8' : s0.objs b8 = none := by simpa only [ins_objs, n86, if_false] using q8
      rcases hyy with ⟨rfl, S', hI', hle'⟩ | ⟨rfl, S', hE', hle'⟩
      · have HN2 : Hid (L.drop (j + 1) = runsGo a z (f.drop (k + 1)) x.t x.v) := ⟨hd2⟩
        clear HN hd2
        (repeat' (first | (simp (config := { maxDischargeDepth := 16 }) only [*, num, Seg.a, vX, Int.reduceLE, Int.reduceLT, Int.reduceGE, Int.reduceGT, Int.reduceBEq, Int.reduceBNe, Int.reduceAdd, Int.reduceSub, Int.reduceMul, Int.reduceNeg, ↓vD, vU, ↓vMd, vMu, VE.ev, VE.evs, retvs, tupOf, grab, vfill, vbsl, eqCells, eqCell, veqs, veqs1, vmnx, AV.isCell, AV.isUndef, Nat.reduceEqDiff, Nat.reduceAdd, Nat.reduceSub, Nat.reduceLeDiff, Nat.reduceLT, reduceIte, reduceCtorEq, Nat.reduceBEq]) | (simp (disch := first | assumption | omega | exact Seg.len _ | exact Vec.len _ | exact Leg.len _ | exact num_len _ | exact rowA_len _ | exact rowA_len | exact rowT_len _ | exact rowT_len | exact Seg.len | exact Vec.len | exact Leg.len | exact num_len | exact AV.slen _ _ | rfl) only [num, Seg.a, vP]) | (with_reducible (first | refine gsnd (fun _ => ?_) (fun _ => ?_) | refine csnd (fun _ => ?_) (fun _ => ?_) | refine gsd (fun _ => ?_) (fun _ => ?_) | refine csd (fun _ => ?_) (fun _ => ?_) | refine gsn (fun _ => ?_) (fun _ => ?_) | refine csn (fun _ => ?_) (fun _ => ?_))) | (with_reducible refine gs (fun _ => ?_) (fun _ => ?_)) | (with_reducible refine cs_ (fun _ => ?_) (fun _ => ?_)) | (with_reducible refine objQ_i (fun _ _ => ?_); (repeat (with_reducible refine imp_i (fun _ => ?_)))) | ((try with_reducible refine appK_a ?_); first | (with_reducible refine appD_F (by refine ⟨?_, ?_, ?_, ?_⟩ <;> (first | assumption | omega | exact St.has_add (by assumption) | (simp only [ins_has]; exact St.has_add (by assumption)) | (simp only [ins_has, fresh_ins, kill_ins, add_ins] at *; exact St.has_add (by assumption)) | (simp only [*, ins_has, has_full, St.has_add]; done) | (simp [-List.map_take, -List.map_drop, or_imp, forall_and, Seg.a, Vec.a, Leg.a, num, okEl, cells_agg, cells_int, cells_sl, cells_bool, AV.isCell]; done) | (simp; omega))) (fun _ _ => ?_)) | (with_reducible refine appD_V (by refine ⟨?_, ?_, ?_, ?_, ?_⟩ <;> (first | assumption | omega | exact St.has_add (by assumption) | (simp only [ins_has]; exact St.has_add (by assumption)) | (simp only [ins_has, fresh_ins, kill_ins, add_ins] at *; exact St.has_add (by assumption)) | (simp only [*, ins_has, has_full, St.has_add]; done) | (simp [-List.map_take, -List.map_drop, or_imp, forall_and, Seg.a, Vec.a, Leg.a, num, okEl, cells_agg, cells_int, cells_sl, cells_bool, AV.isCell]; done) | (simp; omega))) (fun _ _ => ?_))) | (with_reducible refine freshQ_i (fun _ _ => ?_)) | (with_reducible refine nilQ_i (fun _ _ => ?_))))
        exact ⟨_, (St.le.ins hle' b6 _).trans (by (refine ⟨fun i o e => ?_, fun _ h => h⟩; revert e; simp only [St.ins, St.del, add_objs, kill_objs]; (repeat' split); all_goals (first | exact id | (intros; contradiction) | (intros; subst_vars; contradiction) | (intros; simp_all; done) | (intros; subst_vars; simp_all; done)))), j + 1, x.t, x.v, S', rfl, rfl, hI', hle'.none q6, by omega, by omega, HN2⟩
      · (repeat' (first | (simp (config := { maxDischargeDepth := 16 }) only [*, num, Seg.a, vX, Int.reduceLE, Int.reduceLT, Int.reduceGE, Int.reduceGT, Int.reduceBEq, Int.reduceBNe, Int.reduceAdd, Int.reduceSub, Int.reduceMul, Int.reduceNeg, ↓vD, vU, ↓vMd, vMu, VE.ev, VE.evs, retvs, tupOf, grab, vfill, vbsl, eqCells, eqCell, veqs, veqs1, vmnx, AV.isCell, AV.isUndef, Nat.reduceEqDiff, Nat.reduceAdd, Nat.reduceSub, Nat.reduceLeDiff, Nat.reduceLT, reduceIte, reduceCtorEq, Nat.reduceBEq]) | (simp (disch := first | assumption | omega | exact Seg.len _ | exact Vec.len _ | exact Leg.len _ | exact num_len _ | exact rowA_len _ | exact rowA_len | exact rowT_len _ | exact rowT_len | exact Seg.len | exact Vec.len | exact Leg.len | exact num_len | exact AV.slen _ _ | rfl) only [num, Seg.a, vP]) | (with_reducible (first | refine gsnd (fun _ => ?_) (fun _ => ?_) | refine csnd (fun _ => ?_) (fun _ => ?_) | refine gsd (fun _ => ?_) (fun _ => ?_) | refine csd (fun _ => ?_) (fun _ => ?_) | refine gsn (fun _ => ?_) (fun _ => ?_) | refine csn (fun _ => ?_) (fun _ => ?_))) | (with_reducible refine gs (fun _ => ?_) (fun _ => ?_)) | (with_reducible refine cs_ (fun _ => ?_) (fun _ => ?_)) | (with_reducible refine objQ_i (fun _ _ => ?_); (repeat (with_reducible refine imp_i (fun _ => ?_)))) | ((try with_reducible refine appK_a ?_); first | (with_reducible refine appD_F (by refine ⟨?_, ?_, ?_, ?_⟩ <;> (first | assumption | omega | exact St.has_add (by assumption) | (simp only [ins_has]; exact St.has_add (by assumption)) | (simp only [ins_has, fresh_ins, kill_ins, add_ins] at *; exact St.has_add (by assumption)) | (simp only [*, ins_has, has_full, St.has_add]; done) | (simp [-List.map_take, -List.map_drop, or_imp, forall_and, Seg.a, Vec.a, Leg.a, num, okEl, cells_agg, cells_int, cells_sl, cells_bool, AV.isCell]; done) | (simp; omega))) (fun _ _ => ?_)) | (with_reducible refine appD_V (by refine ⟨?_, ?_, ?_, ?_, ?_⟩ <;> (first | assumption | omega | exact St.has_add (by assumption) | (simp only [ins_has]; exact St.has_add (by assumption)) | (simp only [ins_has, fresh_ins, kill_ins, add_ins] at *; exact St.has_add (by assumption)) | (simp only [*, ins_has, has_full, St.has_add]; done) | (simp [-List.map_take, -List.map_drop, or_imp, forall_and, Seg.a, Vec.a, Leg.a, num, okEl, cells_agg, cells_int, cells_sl, cells_bool, AV.isCell]; done) | (simp; omega))) (fun _ _ => ?_))) | (with_reducible refine freshQ_i (fun _ _ => ?_)) | (with_reducible refine nilQ_i (fun _ _ => ?_))))
        exact ⟨_, St.le.refl _, S', .inr hE', hle'.trans (by (refine ⟨fun i o e => ?_, fun _ h => h⟩; revert e; simp only [St.ins, St.del, add_objs, kill_objs]; (repeat' split); all_goals (first | exact id | (intros; contradiction) | (intros; subst_vars; contradiction) | (intros; simp_all; done) | (intros; subst_vars; simp_all; done))))⟩
  · rintro fr s hfr hd ⟨j, p, u, S, rfl, h15, h5, hI, hS6, hj, hp, HK⟩
    rw [List.drop_length, runsGo] at HK
    (repeat' (first | (simp (config := { maxDischargeDepth := 16 }) only [*, num, Seg.a, vX, Int.reduceLE, Int.reduceLT, Int.reduceGE, Int.reduceGT, Int.reduceBEq, Int.reduceBNe, Int.reduceAdd, Int.reduceSub, Int.reduceMul, Int.reduceNeg, ↓vD, vU, ↓vMd, vMu, VE.ev, VE.evs, retvs, tupOf, grab, vfill, vbsl, eqCells, eqCell, veqs, veqs1, vmnx, AV.isCell, AV.isUndef, Nat.reduceEqDiff, Nat.reduceAdd, Nat.reduceSub, Nat.reduceLeDiff, Nat.reduceLT, reduceIte, reduceCtorEq, Nat.reduceBEq]) | (simp (disch := first | assumption | omega | exact Seg.len _ | exact Vec.len _ | exact Leg.len _ | exact num_len _ | exact rowA_len _ | exact rowA_len | exact rowT_len _ | exact rowT_len | exact Seg.len | exact Vec.len | exact Leg.len | exact num_len | exact AV.slen _ _ | rfl) only [num, Seg.a, vP]) | (with_reducible (first | refine gsnd (fun _ => ?_) (fun _ => ?_) | refine csnd (fun _ => ?_) (fun _ => ?_) | refine gsd (fun _ => ?_) (fun _ => ?_) | refine csd (fun _ => ?_) (fun _ => ?_) | refine gsn (fun _ => ?_) (fun _ => ?_) | refine csn (fun _ => ?_) (fun _ => ?_))) | (with_reducible refine gs (fun _ => ?_) (fun _ => ?_)) | (with_reducible refine cs_ (fun _ => ?_) (fun _ => ?_)) | (with_reducible refine objQ_i (fun _ _ => ?_); (repeat (with_reducible refine imp_i (fun _ => ?_)))) | ((try with_reducible refine appK_a ?_); first | (with_reducible refine appD_F (by refine ⟨?_, ?_, ?_, ?_⟩ <;> (first | assumption | omega | exact St.has_add (by assumption) | (simp only [ins_has]; exact St.has_add (by assumption)) | (simp only [ins_has, fresh_ins, kill_ins, add_ins] at *; exact St.has_add (by assumption)) | (simp only [*, ins_has, has_full, St.has_add]; done) | (simp [-List.map_take, -List.map_drop, or_imp, forall_and, Seg.a, Vec.a, Leg.a, num, okEl, cells_agg, cells_int, cells_sl, cells_bool, AV.isCell]; done) | (simp; omega))) (fun _ _ => ?_)) | (with_reducible refine appD_V (by refine ⟨?_, ?_, ?_, ?_, ?_⟩ <;> (first | assumption | omega | exact St.has_add (by assumption) | (simp only [ins_has]; exact St.has_add (by assumption)) | (simp only [ins_has, fresh_ins, kill_ins, add_ins] at *; exact St.has_add (by assumption)) | (simp only [*, ins_has, has_full, St.has_add]; done) | (simp [-List.map_take, -List.map_drop, or_imp, forall_and, Seg.a, Vec.a, Leg.a, num, okEl, cells_agg, cells_int, cells_sl, cells_bool, AV.isCell]; done) | (simp; omega))) (fun _ _ => ?_))) | (with_reducible refine freshQ_i (fun _ _ => ?_)) | (with_reducible refine nilQ_i (fun _ _ => ?_))))
    refine yieldH_then ((HY.out j _ _ HK.out S hI).frame b6 _ hS6) rfl ?_
    rintro _ _ ⟨s0, hyy, q6, rfl⟩
    obtain ⟨hj2, _, hd2⟩ := drop_cons HK.out
    have hjl : j + 1 = L.length := by have := List.drop_eq_nil_iff.1 hd2; omega
    rcases hyy with ⟨rfl, S', hI', hle'⟩ | ⟨rfl, S', hE', hle'⟩
    · rw [hjl] at hI'
      (repeat' (first | (simp (config := { maxDischargeDepth := 16 }) only [*, num, Seg.a, vX, Int.reduceLE, Int.reduceLT, Int.reduceGE, Int.reduceGT, Int.reduceBEq, Int.reduceBNe, Int.reduceAdd, Int.reduceSub, Int.reduceMul, Int.reduceNeg, ↓vD, vU, ↓vMd, vMu, VE.ev, VE.evs, retvs, tupOf, grab, vfill, vbsl, eqCells, eqCell, veqs, veqs1, vmnx, AV.isCell, AV.isUndef, Nat.reduceEqDiff, Nat.reduceAdd, Nat.reduceSub, Nat.reduceLeDiff, Nat.reduceLT, reduceIte, reduceCtorEq, Nat.reduceBEq]) | (simp (disch := first | assumption | omega | exact Seg.len _ | exact Vec.len _ | exact Leg.len _ | exact num_len _ | exact rowA_len _ | exact rowA_len | exact rowT_len _ | exact rowT_len | exact Seg.len | exact Vec.len | exact Leg.len | exact num_len | exact AV.slen _ _ | rfl) only [num, Seg.a, vP]) | (with_reducible (first | refine gsnd (fun _ => ?_) (fun _ => ?_) | refine csnd (fun _ => ?_) (fun _ => ?_) | refine gsd (fun _ => ?_) (fun _ => ?_) | refine csd (fun _ => ?_) (fun _ => ?_) | refine gsn (fun _ => ?_) (fun _ => ?_) | refine csn (fun _ => ?_) (fun _ => ?_))) | (with_reducible refine gs (fun _ => ?_) (fun _ => ?_)) | (with_reducible refine cs_ (fun _ => ?_) (fun _ => ?_)) | (with_reducible refine objQ_i (fun _ _ => ?_); (repeat (with_reducible refine imp_i (fun _ => ?_)))) | ((try with_reducible refine appK_a ?_); first | (with_reducible refine appD_F (by refine ⟨?_, ?_, ?_, ?_⟩ <;> (first | assumption | omega | exact St.has_add (by assumption) | (simp only [ins_has]; exact St.has_add (by assumption)) | (simp only [ins_has, fresh_ins, kill_ins, add_ins] at *; exact St.has_add (by assumption)) | (simp only [*, ins_has, has_full, St.has_add]; done) | (simp [-List.map_take, -List.map_drop, or_imp, forall_and, Seg.a, Vec.a, Leg.a, num, okEl, cells_agg, cells_int, cells_sl, cells_bool, AV.isCell]; done) | (simp; omega))) (fun _ _ => ?_)) | (with_reducible refine appD_V (by refine ⟨?_, ?_, ?_, ?_, ?_⟩ <;> (first | assumption | omega | exact St.has_add (by assumption) | (simp only [ins_has]; exact St.has_add (by assumption)) | (simp only [ins_has, fresh_ins, kill_ins, add_ins] at *; exact St.has_add (by assumption)) | (simp only [*, ins_has, has_full, St.has_add]; done) | (simp [-List.map_take, -List.map_drop, or_imp, forall_and, Seg.a, Vec.a, Leg.a, num, okEl, cells_agg, cells_int, cells_sl, cells_bool, AV.isCell]; done) | (simp; omega))) (fun _ _ => ?_))) | (with_reducible refine freshQ_i (fun _ _ => ?_)) | (with_reducible refine nilQ_i (fun _ _ => ?_))))
      exact ⟨_, St.le.refl _, S', .inl hI', hle'.trans (by (refine ⟨fun i o e => ?_, fun _ h => h⟩; revert e; simp only [St.ins, St.del, add_objs, kill_objs]; (repeat' split); all_goals (first | exact id | (intros; contradiction) | (intros; subst_vars; contradiction) | (intros; simp_all; done) | (intros; subst_vars; simp_all; done))))⟩
    · (repeat' (first | (simp (config := { maxDischargeDepth := 16 }) only [*, num, Seg.a, vX, Int.reduceLE, Int.reduceLT, Int.reduceGE, Int.reduceGT, Int.reduceBEq, Int.reduceBNe, Int.reduceAdd, Int.reduceSub, Int.reduceMul, Int.reduceNeg, ↓vD, vU, ↓vMd, vMu, VE.ev, VE.evs, retvs, tupOf, grab, vfill, vbsl, eqCells, eqCell, veqs, veqs1, vmnx, AV.isCell, AV.isUndef, Nat.reduceEqDiff, Nat.reduceAdd, Nat.reduceSub, Nat.reduceLeDiff, Nat.reduceLT, reduceIte, reduceCtorEq, Nat.reduceBEq]) | (simp (disch := first | assumption | omega | exact Seg.len _ | exact Vec.len _ | exact Leg.len _ | exact num_len _ | exact rowA_len _ | exact rowA_len | exact rowT_len _ | exact rowT_len | exact Seg.len | exact Vec.len | exact Leg.len | exact num_len | exact AV.slen _ _ | rfl) only [num, Seg.a, vP]) | (with_reducible (first | refine gsnd (fun _ => ?_) (fun _ => ?_) | refine csnd (fun _ => ?_) (fun _ => ?_) | refine gsd (fun _ => ?_) (fun _ => ?_) | refine csd (fun _ => ?_) (fun _ => ?_) | refine gsn (fun _ => ?_) (fun _ => ?_) | refine csn (fun _ => ?_) (fun _ => ?_))) | (with_reducible refine gs (fun _ => ?_) (fun _ => ?_)) | (with_reducible refine cs_ (fun _ => ?_) (fun _ => ?_)) | (with_reducible refine objQ_i (fun _ _ => ?_); (repeat (with_reducible refine imp_i (fun _ => ?_)))) | ((try with_reducible refine appK_a ?_); first | (with_reducible refine appD_F (by refine ⟨?_, ?_, ?_, ?_⟩ <;> (first | assumption | omega | exact St.has_add (by assumption) | (simp only [ins_has]; exact St.has_add (by assumption)) | (simp only [ins_has, fresh_ins, kill_ins, add_ins] at *; exact St.has_add (by assumption)) | (simp only [*, ins_has, has_full, St.has_add]; done) | (simp [-List.map_take, -List.map_drop, or_imp, forall_and, Seg.a, Vec.a, Leg.a, num, okEl, cells_agg, cells_int, cells_sl, cells_bool, AV.isCell]; done) | (simp; omega))) (fun _ _ => ?_)) | (with_reducible refine appD_V (by refine ⟨?_, ?_, ?_, ?_, ?_⟩ <;> (first | assumption | omega | exact St.has_add (by assumption) | (simp only [ins_has]; exact St.has_add (by assumption)) | (simp only [ins_has, fresh_ins, kill_ins, add_ins] at *; exact St.has_add (by assumption)) | (simp only [*, ins_has, has_full, St.has_add]; done) | (simp [-List.map_take, -List.map_drop, or_imp, forall_and, Seg.a, Vec.a, Leg.a, num, okEl, cells_agg, cells_int, cells_sl, cells_bool, AV.isCell]; done) | (simp; omega))) (fun _ _ => ?_))) | (with_reducible refine freshQ_i (fun _ _ => ?_)) | (with_reducible refine nilQ_i (fun _ _ => ?_))))
      exact ⟨_, St.le.refl _, S', .inr hE', hle'.trans (by (refine ⟨fun i o e => ?_, fun _ h => h⟩; revert e; simp only [St.ins, St.del, add_objs, kill_objs]; (repeat' split); all_goals (first | exact id | (intros; contradiction) | (intros; subst_vars; contradiction) | (intros; simp_all; done) | (intros; subst_vars; simp_all; done))))⟩
end Go.Proofs.YtglekfgoadehbaaDoor.V
end
