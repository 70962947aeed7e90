/- slices.SortStableFunc at livery/api.Seg: the merge. -/
import Derived.Test.YtddbnncimggogaaLvStSeg
namespace Go.Proofs.Ytddbnncimggogaa.StSeg
open Go.RowKit Go.Proofs.YtddbnncimggogaaW.PrintWords Go.Proofs.YtddbnncimggogaaW.PrintLast Go.Proofs.YtddbnncimggogaaW.PrintMore Go.Proofs.Ytddbnncimggogaa.Pb Go.Proofs.Ytddbnncimggogaa.Lv Go.Proofs.Ytddbnncimggogaa.SP
/-- A search for the end of what holds. -/
structure BX (pr : Int → Bool) (lo hi i j : Int) : Prop where
  li : lo ≤ i
  ij : i ≤ j
  jh : j ≤ hi
  yes : ∀ t, lo ≤ t → t < i → pr t = true
  no : ∀ t, j ≤ t → t < hi → pr t = false
theorem BX.start (pr : Int → Bool) {lo hi : Int} (h : lo ≤ hi) : BX pr lo hi lo hi := ⟨Int.le_refl _, h, Int.le_refl _, fun t h1 h2 => by omega, fun t h1 h2 => by omega⟩
theorem BX.up {pr : Int → Bool} {lo hi i j : Int} (h : BX pr lo hi i j) (mono : ∀ p q, lo ≤ p → p ≤ q → q < hi → pr q = true → pr p = true) (hlt : i < j) (hp : pr ((i + j) / 2) = true) : BX pr lo hi ((i + j) / 2 + 1) j :=
  ⟨by have := h.li; omega, by omega, h.jh, fun t h1 h2 => mono t _ h1 (by omega) (by have := h.jh; omega) hp, h.no⟩
theorem BX.down {pr : Int → Bool} {lo hi i j : Int} (h : BX pr lo hi i j) (mono : ∀ p q, lo ≤ p → p ≤ q → q < hi → pr q = true → pr p = true) (hlt : i < j) (hp : pr ((i + j) / 2) = false) : BX pr lo hi i ((i + j) / 2) :=
  ⟨h.li, by omega, by have := h.jh; omega, h.yes, fun t h1 h2 => by
    cases e : pr t
    · rfl
    · have := mono ((i + j) / 2) t (by have := h.li; omega) h1 h2 e
      rw [this] at hp; cases hp⟩
theorem rd_app_mid (A V C : List Seg) (t : Int) (h0 : (A.length : Int) ≤ t) (h1 : t < A.length + V.length) : rdE (A ++ (V ++ C)) t = V.getD (t - A.length).toNat z30 := by
  unfold rdE
  rw [List.getD_eq_getElem?_getD, List.getElem?_append_right (by omega), List.getElem?_append_left (by omega), List.getD_eq_getElem?_getD]
  congr 3
  omega
theorem srt_rd {lt : Seg → Seg → Bool} {V : List Seg} (h : Srt lt V) (p q : Nat) (hp : p < q) (hq : q < V.length) : lt (V.getD q z30) (V.getD p z30) = false := by
  rw [List.getD_eq_getElem?_getD, List.getD_eq_getElem?_getD, List.getElem?_eq_getElem hq, List.getElem?_eq_getElem (by omega : p < V.length)]
  exact List.pairwise_iff_getElem.1 h p q (by omega) hq hp
theorem mem_take_rd {V : List Seg} {k : Nat} {z : Seg} (h : z ∈ V.take k) : ∃ p, p < k ∧ p < V.length ∧ z = V.getD p z30 := by
  obtain ⟨p, hp, rfl⟩ := List.getElem_of_mem h
  have h2 : p < V.length := by simp at hp; omega
  exact ⟨p, by simp at hp; omega, h2, by simp [List.getD_eq_getElem?_getD, List.getElem?_eq_getElem h2]⟩
theorem mem_drop_rd {V : List Seg} {k : Nat} {z : Seg} (h : z ∈ V.drop k) : ∃ p, k ≤ p ∧ p < V.length ∧ z = V.getD p z30 := by
  obtain ⟨p, hp, rfl⟩ := List.getElem_of_mem h
  have h2 : k + p < V.length := by simp at hp; omega
  exact ⟨k + p, by omega, h2, by simp [List.getD_eq_getElem?_getD, List.getElem?_eq_getElem h2]⟩
/-- One on the left: behind all that are strictly ahead of it. -/
theorem one_left {lt : Seg → Seg → Bool} (o : SWO lt) {x : Seg} {V : List Seg} (hV : Srt lt V) (k : Nat) (h1 : ∀ z ∈ V.take k, lt z x = true) (h2 : ∀ z ∈ V.drop k, lt z x = false) : Srt lt (V.take k ++ x :: V.drop k) ∧ Stb lt ([x] ++ V) (V.take k ++ x :: V.drop k) := by
  have hs : Srt lt (V.take k ++ V.drop k) := by rw [List.take_append_drop]; exact hV
  refine ⟨Srt.app hs.left (List.pairwise_cons.2 ⟨h2, hs.right⟩) fun u hu v hv => ?_, ?_⟩
  · rcases List.mem_cons.1 hv with rfl | hv
    · exact o.asy _ _ (h1 u hu)
    · exact hs.mid u hu v hv
  · have h3 : Stb lt ([x] ++ V.take k) (V.take k ++ [x]) := Stb.cross o [x] (V.take k) fun u hu v hv => by
      obtain rfl : u = x := by simpa using hu
      exact h1 v hv
    have h4 := h3.append (Stb.refl (lt := lt) (V.drop k))
    rw [List.append_assoc, List.take_append_drop] at h4
    simpa using h4
/-- One on the right: ahead of all that it is strictly ahead of. -/
theorem one_right {lt : Seg → Seg → Bool} (o : SWO lt) {y : Seg} {U : List Seg} (hU : Srt lt U) (k : Nat) (h1 : ∀ z ∈ U.take k, lt y z = false) (h2 : ∀ z ∈ U.drop k, lt y z = true) : Srt lt (U.take k ++ y :: U.drop k) ∧ Stb lt (U ++ [y]) (U.take k ++ y :: U.drop k) := by
  have hs : Srt lt (U.take k ++ U.drop k) := by rw [List.take_append_drop]; exact hU
  refine ⟨Srt.app hs.left (List.pairwise_cons.2 ⟨fun z hz => o.asy _ _ (h2 z hz), hs.right⟩) fun u hu v hv => ?_, ?_⟩
  · rcases List.mem_cons.1 hv with rfl | hv
    · exact h1 u hu
    · exact hs.mid u hu v hv
  · have h3 : Stb lt (U.drop k ++ [y]) ([y] ++ U.drop k) := Stb.cross o (U.drop k) [y] fun u hu v hv => by
      obtain rfl : v = y := by simpa using hv
      exact h2 u hu
    have h4 := (Stb.refl (lt := lt) (U.take k)).append h3
    rw [← List.append_assoc, List.take_append_drop] at h4
    simpa using h4

def SymPost (cf : Seg → Seg → Int) (g N : Nat) (I : World → Prop) (A U V C : List Seg) (e : Ending) (w' : World) : Prop := e = .returned (.tuple #[]) ∧ I w' ∧ ∃ M, Row g N (A ++ (M ++ C)) w' ∧ Srt (ltB cf) M ∧ Stb (ltB cf) (U ++ V) M
set_option maxHeartbeats 4000000 in
set_option maxRecDepth 100000 in
theorem sym_left (gc : Nat) (fst cb : Array Value) (cf : Seg → Seg → Int) (o : SWO (ltB cf)) (g N c L : Nat) (I : World → Prop) (hS : Side Try.prog g gc fst cb cf I)
    (eg : ∀ args w, (callFunc gc args).run Try.prog w = .ok (.enter gc args) w) (a m b : Int) (w : World)
    (hI : I w) (A V C : List Seg) (x : Seg) (hR : Row g N (A ++ ([x] ++ (V ++ C))) w) (ha : a = A.length) (hm0 : m = a + 1) (hb : b = m + V.length) (hV0 : 0 < V.length) (hV : Srt (ltB cf) V) (hm : (A ++ ([x] ++ (V ++ C))).length ≤ 1000000000) (hL : L = (A ++ ([x] ++ (V ++ C))).length) :
    Calls Try.prog 152 #[.slice (some ⟨g, 0, none⟩) L c, .int .i64 a, .int .i64 m, .int .i64 b, .func (.func gc) fst cb] w (SymPost cf g N I A [x] V C) := by
  have hu30 := Try.underlying30
  subst hm0
  have ha0 : 0 ≤ a := by omega
  have hlen : A.length + (1 + (V.length + C.length)) = L := by rw [hL]; simp; omega
  rw [← hL] at hm
  have hbL : b ≤ L := by omega
  have hab : a + 1 < b := by omega
  have hbn : b ≤ 1000000000 := by omega
  have haL : a < L := by omega
  obtain ⟨ys, hys⟩ : ∃ ys, ys = A ++ ([x] ++ (V ++ C)) := ⟨_, rfl⟩
  have hyl : ys.length = L := by rw [hys]; exact hL.symm
  rw [← hys] at hR
  have ex : rdE ys a = x := by rw [hys]; exact rd_at A (V ++ C) x a ha
  have ev : ∀ t, a + 1 ≤ t → t < b → rdE ys t = V.getD (t - (a + 1)).toNat z30 := fun t h1 h2 => by
    rw [hys, ← List.append_assoc A]
    rw [rd_app_mid (A ++ [x]) V C t (by simp; omega) (by simp; omega)]
    congr 1
    simp
    omega
  have mono : ∀ p q, a + 1 ≤ p → p ≤ q → q < b → ltB cf (rdE ys q) x = true → ltB cf (rdE ys p) x = true := fun p q h1 h2 h3 h4 => by
    by_cases hpq : p = q
    · rw [hpq]; exact h4
    · cases e : ltB cf (rdE ys p) x
      · have h5 := srt_rd hV (p - (a + 1)).toNat (q - (a + 1)).toNat (by omega) (by omega)
        rw [← ev p h1 (by omega), ← ev q (by omega) h3] at h5
        have := o.neg _ _ _ h5 e
        rw [this] at h4; cases h4
      · rfl
  have HR := Aside0.mk hR
  have HY := Aside0.mk (And.intro hys (And.intro hyl (And.intro ex (And.intro ev (And.intro mono (And.intro ha (And.intro hb (And.intro hlen hV))))))))
  have HS := Aside0.mk hS
  have HEG := Aside0.mk eg
  have HDR := Aside0.mk hS.drew
  have hd1 : ((a + 1 - a : Int) == 1) = true := by simp; omega
  have he1 : a + 1 - a = 1 := by omega
  clear hR hys hyl ex ev mono ha hb hlen hV hS hL hm hV0
  go_enter Try.func152, Try.ntmps152
  go_wp2
  go_loopw [10, 11] (fun v10 v11 wr => ∃ i j : Int, v10 = .int .i64 i ∧ v11 = .int .i64 j ∧ a + 1 ≤ i ∧ i ≤ j ∧ j ≤ b ∧ I wr ∧ Row g N ys wr ∧ Aside0 (BX (fun t => ltB cf (rdE ys t) x) (a + 1) b i j)) (fun v10 v11 _ => (intOf v11 - intOf v10).toNat)
  case atStart => exact ⟨a + 1, b, rfl, rfl, by omega, by omega, by omega, hI, HR.out, ⟨BX.start _ (by omega)⟩⟩
  case round =>
    obtain ⟨i, j, rfl, rfl, hai, hij, hjb, hIw, hRw, HB⟩ := hrel
    have hin : i ≤ 1000000000 := by omega
    have hjn : j ≤ 1000000000 := by omega
    have hi0 : 0 ≤ i := by omega
    have hj0 : 0 ≤ j := by omega
    by_cases hlt : i < j
    · have inst : Inhabited (InR g I wr) := ⟨⟨wr, hIw, fun _ h => h⟩⟩
      obtain ⟨h, hh⟩ : ∃ h, (i + j) / 2 = h := ⟨_, rfl⟩
      have hh0 : 0 ≤ h := by omega
      have hh1 : h < L := by omega
      have hhi : i ≤ h := by omega
      have hhj : h < j := by omega
      have hhw : IntKind.i64.wrap h = h := by rw [IntKind.wrap_i64]; omega
      obtain ⟨cs, hb, hsz, hlN, hH⟩ := hRw
      obtain ⟨xp0, xp1, xp2⟩ := holds_int hH h hh0 (by rw [HY.out.2.1]; omega)
      have hxa := holds_int hH a ha0 (by rw [HY.out.2.1]; omega)
      rw [HY.out.2.2.1] at hxa
      obtain ⟨xq0, xq1, xq2⟩ := hxa
      have pc0 := fun p : InR g I wr => InR.cell hb xp0 p
      have pc1 := fun p : InR g I wr => InR.cell hb xp1 p
      have pc2 := fun p : InR g I wr => InR.cell hb xp2 p
      have qc0 := fun p : InR g I wr => InR.cell hb xq0 p
      have qc1 := fun p : InR g I wr => InR.cell hb xq1 p
      have qc2 := fun p : InR g I wr => InR.cell hb xq2 p
      have HRW := Aside0.mk (⟨cs, hb, hsz, hlN, hH⟩ : Row g N ys wr)
      obtain ⟨y, hy⟩ : ∃ y, y = rdE ys h := ⟨_, rfl⟩
      rw [← hy] at pc0 pc1 pc2
      have HYY := Aside0.mk hy
      have HH := Aside0.mk hh
      have heg := HEG.out
      clear hb hsz hlN hH xp0 xq0 xp1 xq1 xp2 xq2 hy
      go_wp2_with fail
      refine wp_region_inR g I hIw HDR.out (by kernel_rfl) (by kernel_rfl) ?_
      repeat (quiet_step ((exact Calls.inR (HS.out.cmp y x _ (InR.side _)))))
      refine wpQuiet_nil ?_
      rintro w3 ⟨⟨_, hI3, hrow⟩, rfl⟩
      try dsimp only
      have HR3 : Row g N ys w3 := row_of HRW.out ⟨w3, hI3, hrow⟩
      have HI3 := Aside0.mk hI3
      have HR3' := Aside0.mk HR3
      clear pc0 qc0 pc1 qc1 pc2 qc2 hrow HR3 hI3 inst hIw
      by_cases hc : cf y x < 0
      · have hd : decide (cf y x < 0) = true := decide_eq_true hc
        have hnew : Aside0 (BX (fun t => ltB cf (rdE ys t) x) (a + 1) b (h + 1) j) := ⟨by
          have := HB.out.up (fun p q => HY.out.2.2.2.2.1 p q) hlt (by rw [HH.out, ← HYY.out]; simpa [ltB] using hc)
          rwa [HH.out] at this⟩
        go_wp2
        go_roundw
        case rel => exact ⟨h + 1, j, rfl, rfl, by omega, by omega, by omega, HI3.out, HR3'.out, hnew⟩
        case measure => simp [intOf]; omega
      · have hd : decide (cf y x < 0) = false := decide_eq_false hc
        have hnew : Aside0 (BX (fun t => ltB cf (rdE ys t) x) (a + 1) b i h) := ⟨by
          have := HB.out.down (fun p q => HY.out.2.2.2.2.1 p q) hlt (by rw [HH.out, ← HYY.out]; simpa [ltB] using hc)
          rwa [HH.out] at this⟩
        go_wp2
        go_roundw
        case rel => exact ⟨i, h, rfl, rfl, by omega, by omega, by omega, HI3.out, HR3'.out, hnew⟩
        case measure => simp [intOf]; omega
    · have hie : i = j := by omega
      have hat2 : Row g N (A ++ (V.take (a - a).toNat ++ (x :: (V.drop (a - a).toNat ++ C)))) wr := by
        have := hRw; rw [HY.out.1] at this; simpa using this
      have HAT2 := Aside0.mk hat2
      have HIE := Aside0.mk hie
      clear hRw hat2 hie
      go_wp2_with fail
      go_loopw [13] (fun v13 wr => ∃ k : Int, v13 = .int .i64 k ∧ a ≤ k ∧ k ≤ i - 1 ∧ I wr ∧ Row g N (A ++ (V.take (k - a).toNat ++ (x :: (V.drop (k - a).toNat ++ C)))) wr) (fun v13 _ => (i - intOf v13).toNat)
      case atStart => exact ⟨a, rfl, by omega, by omega, hIw, HAT2.out⟩
      case round =>
        obtain ⟨k, rfl, hak, hki, hIk, hRk⟩ := hrel
        by_cases hk : k < i - 1
        · have hy := HY.out
          have hVl : (k - a).toNat < V.length := by have := HY.out.2.2.2.2.2; omega
          obtain ⟨v, hv⟩ : ∃ v, V.drop (k - a).toNat = v :: V.drop (k + 1 - a).toNat := by
            have e1 : (k + 1 - a).toNat = (k - a).toNat + 1 := by omega
            exact ⟨V[(k - a).toNat], by rw [e1, ← List.drop_eq_getElem_cons hVl]⟩
          have htk : V.take (k + 1 - a).toNat = V.take (k - a).toNat ++ [v] := by
            have e1 : (k + 1 - a).toNat = (k - a).toNat + 1 := by omega
            rw [e1, List.take_succ_eq_append_getElem hVl]
            rw [List.drop_eq_getElem_cons hVl] at hv
            injection hv with hv _
            rw [hv]
          obtain ⟨q, hq⟩ : ∃ q, k + 1 = q := ⟨_, rfl⟩
          obtain ⟨zs, hzs⟩ : ∃ zs, zs = A ++ (V.take (k - a).toNat ++ (x :: (V.drop (k - a).toNat ++ C))) := ⟨_, rfl⟩
          have hzl : zs.length = L := by rw [hzs]; have := HY.out.2.2.2.2.2; simp; omega
          have ek : rdE zs k = x := by
            rw [hzs, ← List.append_assoc]
            exact rd_at _ _ _ _ (by have := HY.out.2.2.2.2.2; simp; omega)
          have eq : rdE zs q = v := by
            rw [hzs, hv, show A ++ (V.take (k - a).toNat ++ (x :: ((v :: V.drop (k + 1 - a).toNat) ++ C))) = (A ++ (V.take (k - a).toNat ++ [x])) ++ v :: (V.drop (k + 1 - a).toNat ++ C) by simp]
            exact rd_at _ _ _ _ (by have := HY.out.2.2.2.2.2; simp; omega)
          have esw : swp zs k.toNat q.toNat = A ++ (V.take (k + 1 - a).toNat ++ (x :: (V.drop (k + 1 - a).toNat ++ C))) := by
            have h3 := swp_app (A ++ V.take (k - a).toNat) [] (V.drop (k + 1 - a).toNat ++ C) x v
            have e3 : (A ++ V.take (k - a).toNat).length = k.toNat := by have := HY.out.2.2.2.2.2; simp; omega
            have e4 : (A ++ V.take (k - a).toNat).length + 1 + ([] : List Seg).length = q.toNat := by have := HY.out.2.2.2.2.2; simp; omega
            rw [e4, e3] at h3
            rw [hzs, hv, htk]
            simpa using h3
          rw [← hzs] at hRk
          obtain ⟨cs, hb, hsz, hlN, hH⟩ := hRk
          have hk0 : 0 ≤ k := by omega
          have hq0 : 0 ≤ q := by omega
          have hkq : k ≠ q := by omega
          have hkL : k < L := by have := HY.out.2.2.2.2.2; omega
          have hqL : q < L := by have := HY.out.2.2.2.2.2; omega
          have hxk := holds_int hH k hk0 (by omega)
          have hxq := holds_int hH q hq0 (by omega)
          have fin := row_swp hb hsz hlN hH k q hk0 (by omega) hq0 (by omega) hkq
          rw [esw, ek, eq] at fin
          rw [ek] at hxk
          rw [eq] at hxq
          obtain ⟨xp0, xp1, xp2⟩ := hxk
          obtain ⟨xq0, xq1, xq2⟩ := hxq
          have pc0 := (blk_cell hb (k.toNat * 3)).trans xp0
          have pc1 := (blk_cell hb (k.toNat * 3 + 1)).trans xp1
          have pc2 := (blk_cell hb (k.toNat * 3 + 2)).trans xp2
          have qc0 := (blk_cell hb (q.toNat * 3)).trans xq0
          have qc1 := (blk_cell hb (q.toNat * 3 + 1)).trans xq1
          have qc2 := (blk_cell hb (q.toNat * 3 + 2)).trans xq2
          have pz0 := blk_frozen hb (k.toNat * 3)
          have pz1 := blk_frozen hb (k.toNat * 3 + 1)
          have pz2 := blk_frozen hb (k.toNat * 3 + 2)
          have qz0 := blk_frozen hb (q.toNat * 3)
          have qz1 := blk_frozen hb (q.toNat * 3 + 1)
          have qz2 := blk_frozen hb (q.toNat * 3 + 2)
          have FIN := Aside0.mk fin
          have HIW := Aside0.mk hIk
          clear hb hsz hlN hH xp0 xq0 xp1 xq1 xp2 xq2 fin esw ek eq hzl hzs htk hv hy hVl hIk
          have hkq' := Aside0.mk hq
          go_wp2_with fail
          go_region
          all_goals go_wp2
          go_roundw
          case rel => exact ⟨q, rfl, by omega, by omega, HS.out.drew _ (HS.out.set _ _ _ (HS.out.set _ _ _ (HS.out.set _ _ _ (HS.out.set _ _ _ (HS.out.set _ _ _ (HS.out.set _ _ _ (HIW.out))))))), by have := row_drew FIN.out; rw [hkq'.out] at this; exact this⟩
          case measure => simp [intOf]; omega
        · have hki2 : k = i - 1 := by omega
          have hfin : SymPost cf g N I A [x] V C (.returned (.tuple #[])) wr := by
            have h := HY.out
            have hB := HB.out
            have hs := one_left o h.2.2.2.2.2.2.2.2 (k - a).toNat (fun z hz => by
              obtain ⟨p, hp, hpl, rfl⟩ := mem_take_rd hz
              have h1 := hB.yes (a + 1 + p) (by omega) (by omega)
              rw [h.2.2.2.1 _ (by omega) (by omega)] at h1
              rwa [show (a + 1 + (p : Int) - (a + 1)).toNat = p by omega] at h1) (fun z hz => by
              obtain ⟨p, hp, hpl, rfl⟩ := mem_drop_rd hz
              have h1 := hB.no (a + 1 + p) (by have := HIE.out; omega) (by omega)
              rw [h.2.2.2.1 _ (by omega) (by omega)] at h1
              rwa [show (a + 1 + (p : Int) - (a + 1)).toNat = p by omega] at h1)
            exact ⟨rfl, hIk, _, by simpa using hRk, hs.1, hs.2⟩
          have HF := Aside0.mk hfin
          clear hfin hRk
          go_wp2
          go_end0
          exact HF.out

set_option maxHeartbeats 4000000 in
set_option maxRecDepth 100000 in
theorem sym_right (gc : Nat) (fst cb : Array Value) (cf : Seg → Seg → Int) (o : SWO (ltB cf)) (g N c L : Nat) (I : World → Prop) (hS : Side Try.prog g gc fst cb cf I)
    (eg : ∀ args w, (callFunc gc args).run Try.prog w = .ok (.enter gc args) w) (a m b : Int) (w : World)
    (hI : I w) (A U C : List Seg) (y : Seg) (hR : Row g N (A ++ (U ++ ([y] ++ C))) w) (ha : a = A.length) (hm0 : m = a + U.length) (hb : b = m + 1) (hU1 : 1 < U.length) (hU : Srt (ltB cf) U) (hm : (A ++ (U ++ ([y] ++ C))).length ≤ 1000000000) (hL : L = (A ++ (U ++ ([y] ++ C))).length) :
    Calls Try.prog 152 #[.slice (some ⟨g, 0, none⟩) L c, .int .i64 a, .int .i64 m, .int .i64 b, .func (.func gc) fst cb] w (SymPost cf g N I A U [y] C) := by
  have hu30 := Try.underlying30
  subst hb
  have ha0 : 0 ≤ a := by omega
  have hlen : A.length + (U.length + (1 + C.length)) = L := by rw [hL]; simp; omega
  rw [← hL] at hm
  have hmL : m < L := by omega
  have ham : a < m := by omega
  have hmn : m ≤ 1000000000 := by omega
  have haL : a < L := by omega
  have ham2 : a + 1 < m := by omega
  obtain ⟨ys, hys⟩ : ∃ ys, ys = A ++ (U ++ ([y] ++ C)) := ⟨_, rfl⟩
  have hyl : ys.length = L := by rw [hys]; exact hL.symm
  rw [← hys] at hR
  have ex : rdE ys m = y := by rw [hys, ← List.append_assoc]; exact rd_at (A ++ U) C y m (by simp; omega)
  have ev : ∀ t, a ≤ t → t < m → rdE ys t = U.getD (t - a).toNat z30 := fun t h1 h2 => by
    rw [hys]
    rw [rd_app_mid A U ([y] ++ C) t (by omega) (by omega)]
    congr 1
    omega
  have mono : ∀ p q, a ≤ p → p ≤ q → q < m → (!ltB cf y (rdE ys q)) = true → (!ltB cf y (rdE ys p)) = true := fun p q h1 h2 h3 h4 => by
    by_cases hpq : p = q
    · rw [hpq]; exact h4
    · have h5 := srt_rd hU (p - a).toNat (q - a).toNat (by omega) (by omega)
      rw [← ev p h1 (by omega), ← ev q (by omega) h3] at h5
      have h6 := o.neg _ _ _ (by simpa using h4) h5
      simp [h6]
  have HR := Aside0.mk hR
  have HY := Aside0.mk (And.intro hys (And.intro hyl (And.intro ex (And.intro ev (And.intro mono (And.intro ha (And.intro hm0 (And.intro hlen hU))))))))
  have HS := Aside0.mk hS
  have HEG := Aside0.mk eg
  have HDR := Aside0.mk hS.drew
  have hd1 : ((m - a : Int) == 1) = false := by simp; omega
  have hd2 : ((m + 1 - m : Int) == 1) = true := by simp; omega
  have he1 : m + 1 - m = 1 := by omega
  clear hR hys hyl ex ev mono ha hm0 hlen hU hS hL hm hU1
  go_enter Try.func152, Try.ntmps152
  go_wp2
  go_loopw [14, 15] (fun v10 v11 wr => ∃ i j : Int, v10 = .int .i64 i ∧ v11 = .int .i64 j ∧ a ≤ i ∧ i ≤ j ∧ j ≤ m ∧ I wr ∧ Row g N ys wr ∧ Aside0 (BX (fun t => !ltB cf y (rdE ys t)) a m i j)) (fun v10 v11 _ => (intOf v11 - intOf v10).toNat)
  case atStart => exact ⟨a, m, rfl, rfl, by omega, by omega, by omega, hI, HR.out, ⟨BX.start _ (by omega)⟩⟩
  case round =>
    obtain ⟨i, j, rfl, rfl, hai, hij, hjb, hIw, hRw, HB⟩ := hrel
    have hin : i ≤ 1000000000 := by omega
    have hjn : j ≤ 1000000000 := by omega
    have hi0 : 0 ≤ i := by omega
    have hj0 : 0 ≤ j := by omega
    by_cases hlt : i < j
    · have inst : Inhabited (InR g I wr) := ⟨⟨wr, hIw, fun _ h => h⟩⟩
      obtain ⟨h, hh⟩ : ∃ h, (i + j) / 2 = h := ⟨_, rfl⟩
      have hh0 : 0 ≤ h := by omega
      have hh1 : h < L := by omega
      have hhi : i ≤ h := by omega
      have hhj : h < j := by omega
      have hhw : IntKind.i64.wrap h = h := by rw [IntKind.wrap_i64]; omega
      obtain ⟨cs, hb, hsz, hlN, hH⟩ := hRw
      obtain ⟨xp0, xp1, xp2⟩ := holds_int hH h hh0 (by rw [HY.out.2.1]; omega)
      have hm0' : 0 ≤ m := by omega
      have hxa := holds_int hH m hm0' (by rw [HY.out.2.1]; omega)
      rw [HY.out.2.2.1] at hxa
      obtain ⟨xq0, xq1, xq2⟩ := hxa
      have pc0 := fun p : InR g I wr => InR.cell hb xp0 p
      have pc1 := fun p : InR g I wr => InR.cell hb xp1 p
      have pc2 := fun p : InR g I wr => InR.cell hb xp2 p
      have qc0 := fun p : InR g I wr => InR.cell hb xq0 p
      have qc1 := fun p : InR g I wr => InR.cell hb xq1 p
      have qc2 := fun p : InR g I wr => InR.cell hb xq2 p
      have HRW := Aside0.mk (⟨cs, hb, hsz, hlN, hH⟩ : Row g N ys wr)
      obtain ⟨z, hy⟩ : ∃ z, z = rdE ys h := ⟨_, rfl⟩
      rw [← hy] at pc0 pc1 pc2
      have HYY := Aside0.mk hy
      have HH := Aside0.mk hh
      have heg := HEG.out
      clear hb hsz hlN hH xp0 xq0 xp1 xq1 xp2 xq2 hy
      go_wp2_with fail
      refine wp_region_inR g I hIw HDR.out (by kernel_rfl) (by kernel_rfl) ?_
      repeat (quiet_step ((exact Calls.inR (HS.out.cmp y z _ (InR.side _)))))
      refine wpQuiet_nil ?_
      rintro w3 ⟨⟨_, hI3, hrow⟩, rfl⟩
      try dsimp only
      have HR3 : Row g N ys w3 := row_of HRW.out ⟨w3, hI3, hrow⟩
      have HI3 := Aside0.mk hI3
      have HR3' := Aside0.mk HR3
      clear pc0 qc0 pc1 qc1 pc2 qc2 hrow HR3 hI3 inst hIw
      by_cases hc : ¬ cf y z < 0
      · have hd : decide (cf y z < 0) = false := decide_eq_false hc
        have hd' : (!decide (cf y z < 0)) = true := by rw [hd]; rfl
        clear hd
        have hnew : Aside0 (BX (fun t => !ltB cf y (rdE ys t)) a m (h + 1) j) := ⟨by
          have := HB.out.up (fun p q => HY.out.2.2.2.2.1 p q) hlt (by rw [HH.out, ← HYY.out]; simpa [ltB] using hc)
          rwa [HH.out] at this⟩
        go_wp2
        any_goals (exfalso; rename_i hx; rw [hd'] at hx; cases hx; done)
        go_roundw
        case rel => exact ⟨h + 1, j, rfl, rfl, by omega, by omega, by omega, HI3.out, HR3'.out, hnew⟩
        case measure => simp [intOf]; omega
      · have hc : cf y z < 0 := by omega
        have hd : decide (cf y z < 0) = true := decide_eq_true hc
        have hd' : (!decide (cf y z < 0)) = false := by rw [hd]; rfl
        clear hd
        have hnew : Aside0 (BX (fun t => !ltB cf y (rdE ys t)) a m i h) := ⟨by
          have := HB.out.down (fun p q => HY.out.2.2.2.2.1 p q) hlt (by rw [HH.out, ← HYY.out]; simpa [ltB] using hc)
          rwa [HH.out] at this⟩
        go_wp2
        any_goals (exfalso; rename_i hx; rw [hd'] at hx; cases hx; done)
        go_roundw
        case rel => exact ⟨i, h, rfl, rfl, by omega, by omega, by omega, HI3.out, HR3'.out, hnew⟩
        case measure => simp [intOf]; omega
    · have hie : i = j := by omega
      have hat2 : Row g N (A ++ (U.take (m - a).toNat ++ (y :: (U.drop (m - a).toNat ++ C)))) wr := by
        have := hRw
        have e1 : (m - a).toNat = U.length := by have := HY.out.2.2.2.2.2; omega
        rw [HY.out.1] at this
        rw [e1, List.take_length, List.drop_length]
        simpa using this
      have HAT2 := Aside0.mk hat2
      have HIE := Aside0.mk hie
      clear hRw hat2 hie
      go_wp2_with fail
      go_loopw [17] (fun v13 wr => ∃ k : Int, v13 = .int .i64 k ∧ i ≤ k ∧ k ≤ m ∧ I wr ∧ Row g N (A ++ (U.take (k - a).toNat ++ (y :: (U.drop (k - a).toNat ++ C)))) wr) (fun v13 _ => (intOf v13).toNat)
      case atStart => exact ⟨m, rfl, by omega, by omega, hIw, HAT2.out⟩
      case round =>
        obtain ⟨k, rfl, hik, hkm, hIk, hRk⟩ := hrel
        by_cases hk : i < k
        · obtain ⟨q, hq⟩ : ∃ q, k - 1 = q := ⟨_, rfl⟩
          have hq2 : k = q + 1 := by omega
          have hVl : (q - a).toNat < U.length := by have := HY.out.2.2.2.2.2; omega
          have e1 : (k - a).toNat = (q - a).toNat + 1 := by omega
          obtain ⟨v, hv⟩ : ∃ v, U.drop (q - a).toNat = v :: U.drop (k - a).toNat := ⟨U[(q - a).toNat], by rw [e1, ← List.drop_eq_getElem_cons hVl]⟩
          have htk : U.take (k - a).toNat = U.take (q - a).toNat ++ [v] := by
            rw [e1, List.take_succ_eq_append_getElem hVl]
            rw [List.drop_eq_getElem_cons hVl] at hv
            injection hv with hv _
            rw [hv]
          obtain ⟨zs, hzs⟩ : ∃ zs, zs = A ++ (U.take (k - a).toNat ++ (y :: (U.drop (k - a).toNat ++ C))) := ⟨_, rfl⟩
          have hzl : zs.length = L := by rw [hzs]; have := HY.out.2.2.2.2.2; simp; omega
          have ek : rdE zs k = y := by
            rw [hzs, ← List.append_assoc]
            exact rd_at _ _ _ _ (by have := HY.out.2.2.2.2.2; simp; omega)
          have eq : rdE zs q = v := by
            rw [hzs, htk, show A ++ ((U.take (q - a).toNat ++ [v]) ++ (y :: (U.drop (k - a).toNat ++ C))) = (A ++ U.take (q - a).toNat) ++ v :: (y :: (U.drop (k - a).toNat ++ C)) by simp]
            exact rd_at _ _ _ _ (by have := HY.out.2.2.2.2.2; simp; omega)
          have esw : swp zs k.toNat q.toNat = A ++ (U.take (q - a).toNat ++ (y :: (U.drop (q - a).toNat ++ C))) := by
            have h3 := swp_app (A ++ U.take (q - a).toNat) [] (U.drop (k - a).toNat ++ C) v y
            have e3 : (A ++ U.take (q - a).toNat).length = q.toNat := by have := HY.out.2.2.2.2.2; simp; omega
            have e4 : (A ++ U.take (q - a).toNat).length + 1 + ([] : List Seg).length = k.toNat := by have := HY.out.2.2.2.2.2; simp; omega
            rw [e4, e3] at h3
            rw [swp_comm _ _ _ (by omega), hzs, hv, htk]
            simpa using h3
          rw [← hzs] at hRk
          obtain ⟨cs, hb, hsz, hlN, hH⟩ := hRk
          have hk0 : 0 ≤ k := by omega
          have hq0 : 0 ≤ q := by omega
          have hkq : k ≠ q := by omega
          have hkL : k < L := by have := HY.out.2.2.2.2.2; omega
          have hqL : q < L := by have := HY.out.2.2.2.2.2; omega
          have hxk := holds_int hH k hk0 (by omega)
          have hxq := holds_int hH q hq0 (by omega)
          have fin := row_swp hb hsz hlN hH k q hk0 (by omega) hq0 (by omega) hkq
          rw [esw, ek, eq] at fin
          rw [ek] at hxk
          rw [eq] at hxq
          obtain ⟨xp0, xp1, xp2⟩ := hxk
          obtain ⟨xq0, xq1, xq2⟩ := hxq
          have pc0 := (blk_cell hb (k.toNat * 3)).trans xp0
          have pc1 := (blk_cell hb (k.toNat * 3 + 1)).trans xp1
          have pc2 := (blk_cell hb (k.toNat * 3 + 2)).trans xp2
          have qc0 := (blk_cell hb (q.toNat * 3)).trans xq0
          have qc1 := (blk_cell hb (q.toNat * 3 + 1)).trans xq1
          have qc2 := (blk_cell hb (q.toNat * 3 + 2)).trans xq2
          have pz0 := blk_frozen hb (k.toNat * 3)
          have pz1 := blk_frozen hb (k.toNat * 3 + 1)
          have pz2 := blk_frozen hb (k.toNat * 3 + 2)
          have qz0 := blk_frozen hb (q.toNat * 3)
          have qz1 := blk_frozen hb (q.toNat * 3 + 1)
          have qz2 := blk_frozen hb (q.toNat * 3 + 2)
          have FIN := Aside0.mk fin
          have HIW := Aside0.mk hIk
          have HQ2 := Aside0.mk hq2
          clear hb hsz hlN hH xp0 xq0 xp1 xq1 xp2 xq2 fin esw ek eq hzl hzs htk hv e1 hVl hIk hq2
          have hkn : k ≤ 1000000000 := by omega
          go_wp2_with fail
          go_region
          all_goals go_wp2
          go_roundw
          case rel => exact ⟨q, rfl, by omega, by omega, HS.out.drew _ (HS.out.set _ _ _ (HS.out.set _ _ _ (HS.out.set _ _ _ (HS.out.set _ _ _ (HS.out.set _ _ _ (HS.out.set _ _ _ (HIW.out))))))), row_drew FIN.out⟩
          case measure => have := HQ2.out; simp [intOf]; omega
        · have hki2 : k = i := by omega
          have hfin : SymPost cf g N I A U [y] C (.returned (.tuple #[])) wr := by
            have h := HY.out
            have hB := HB.out
            have hs := one_right o h.2.2.2.2.2.2.2.2 (k - a).toNat (fun z hz => by
              obtain ⟨p, hp, hpl, rfl⟩ := mem_take_rd hz
              have h1 := hB.yes (a + p) (by omega) (by omega)
              simp only [h.2.2.2.1 (a + p) (by omega) (by omega)] at h1
              rw [show (a + (p : Int) - a).toNat = p by omega] at h1
              simpa using h1) (fun z hz => by
              obtain ⟨p, hp, hpl, rfl⟩ := mem_drop_rd hz
              have h1 := hB.no (a + p) (by have := HIE.out; omega) (by omega)
              simp only [h.2.2.2.1 (a + p) (by omega) (by omega)] at h1
              rw [show (a + (p : Int) - a).toNat = p by omega] at h1
              simpa using h1)
            exact ⟨rfl, hIk, _, by simpa using hRk, hs.1, hs.2⟩
          have HF := Aside0.mk hfin
          clear hfin hRk
          go_wp2
          go_end0
          exact HF.out

end Go.Proofs.Ytddbnncimggogaa.StSeg
