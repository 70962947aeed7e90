/- rle.folded, rle.Of, rle.Box. -/
import Derived.Test.YtddbnncimggogaaLv7
import Derived.Test.YtddbnncimggogaaLv2
namespace Go.Proofs.Ytddbnncimggogaa.Lv
open Go.RowKit Go.Proofs.YtddbnncimggogaaW.PrintWords Go.Proofs.YtddbnncimggogaaW.PrintLast Go.Proofs.YtddbnncimggogaaW.PrintMore Go.Proofs.Ytddbnncimggogaa.Pb Go.Proofs.Ytddbnncimggogaa.SP Go.Proofs.Ytddbnncimggogaa.StSeg
attribute [local go_sem high] eqA28
theorem ltS (x y : Seg) : ltB cmpS x y = decide (x.f0 < y.f0) := by
  unfold ltB cmpS
  by_cases h : x.f0 < y.f0
  · simp [h]
  · by_cases h2 : y.f0 < x.f0
    · simp [h, h2]
    · simp [h, h2]
theorem swoS : SWO (ltB cmpS) where
  irr x := by simp [ltS]
  neg x y z := by simp only [ltS, decide_eq_false_iff_not]; omega
  asy x y := by simp only [ltS, decide_eq_false_iff_not, decide_eq_true_eq]; omega
theorem addr_add (g m : Nat) : (⟨g, 0, none⟩ : Addr).add m = ⟨g, m, none⟩ := by
  unfold Addr.add
  by_cases h : m = 0
  · subst h; simp
  · simp [h]
theorem OutAt.step {B b1 b2 g : Nat} {og : Obj} {w0 : World} {ys : List Seg} {lm lc : Int} {W W' : World} (h : OutAt B b1 b2 g og w0 ys lm lc W) (hb : Below W.heap.size W W') : OutAt B b1 b2 g og w0 ys lm lc W' := by
  obtain ⟨h1, h2, h3, ⟨v, h4, h5⟩, h6⟩ := h
  exact ⟨h1.trans (hb.mono h2), Nat.le_trans h2 hb.size, blk_below h3 hb, ⟨v, blk_below h4 hb, Kd.R_below h5 hb⟩, blk_below h6 hb⟩
theorem row_of_C {g N : Nat} {xs : List Seg} {w : World} {cs : Array Value} (hb : w.heap[g]? = some (.cells cs 30 (0, 0))) (hC : Kd.C kSeg w (some ⟨g, 0, none⟩) xs.length xs) (hs : cs.size = N) (hl : xs.length * 3 ≤ N) : Row g N xs w := by
  refine ⟨cs, hb, hs, hl, fun i hi => ?_⟩
  obtain ⟨ad, e, h0, h1, h2⟩ := at_T30 hC (i : Int) (by omega) (by omega)
  cases e
  rw [addr_add] at h0 h1 h2
  rw [blk_cell hb] at h0 h1 h2
  simp only [rd_T30, Int.toNat_natCast] at h0 h1 h2
  exact ⟨h0, h1, h2⟩
theorem C_of_row {g N : Nat} {xs : List Seg} {w : World} (h : Row g N xs w) (hn : xs.length ≤ 9223372036854775807) : Kd.C kSeg w (some ⟨g, 0, none⟩) xs.length xs := by
  obtain ⟨cs, hb, hs, hl, hH⟩ := h
  refine ⟨rfl, hn, fun _ => ⟨_, rfl, fun j p hj => ⟨_, rfl, k30_mk w p, fun i u hu => ?_⟩⟩⟩
  have hj' := List.getElem?_eq_some_iff.1 hj
  obtain ⟨h0, h1, h2⟩ := hH j hj'.1
  have ep : xs.getD j z30 = p := by rw [List.getD_eq_getElem?_getD, hj]; rfl
  rw [ep] at h0 h1 h2
  rw [addr_add, blk_cell hb]
  match i, hu with
  | 0, hu => simp at hu; subst hu; exact h0
  | 1, hu => simp at hu; subst hu; exact h1
  | 2, hu => simp at hu; subst hu; exact h2
  | i + 3, hu => simp at hu
/-- Is the next run at another time, or is there none. -/
def nextB (x : Seg) : List Seg → Bool
  | [] => true
  | y :: _ => !(y.f0 == x.f0)
def foldB : List Seg → List Seg → Int → Int → List Seg
  | [], ys, _, _ => ys
  | x :: l, ys, lm, lc => if nextB x l && putB x lm lc then foldB l (ys ++ [x]) x.f1.f0 x.f1.f1 else foldB l ys lm lc
def foldF (xs : List Seg) : List Seg := foldB (sortS (ltB cmpS) xs) [] 0 0
theorem drop_rd (zs : List Seg) (i : Int) (h0 : 0 ≤ i) (h : i < zs.length) : zs.drop i.toNat = rdE zs i :: zs.drop (i + 1).toNat := by
  have hl : i.toNat < zs.length := by omega
  rw [show (i + 1).toNat = i.toNat + 1 by omega, List.drop_eq_getElem_cons hl]
  simp [rdE, List.getD_eq_getElem?_getD, List.getElem?_eq_getElem hl]
theorem foldB_go (zs acc : List Seg) (lm lc i : Int) (h0 : 0 ≤ i) (h : i < zs.length) (hn : nextB (rdE zs i) (zs.drop (i + 1).toNat) = true) :
    foldB (zs.drop i.toNat) acc lm lc = if putB (rdE zs i) lm lc then foldB (zs.drop (i + 1).toNat) (acc ++ [rdE zs i]) (rdE zs i).f1.f0 (rdE zs i).f1.f1 else foldB (zs.drop (i + 1).toNat) acc lm lc := by
  rw [drop_rd zs i h0 h]; simp [foldB, hn]
theorem foldB_stay (zs acc : List Seg) (lm lc i : Int) (h0 : 0 ≤ i) (h : i < zs.length) (hn : nextB (rdE zs i) (zs.drop (i + 1).toNat) = false) :
    foldB (zs.drop i.toNat) acc lm lc = foldB (zs.drop (i + 1).toNat) acc lm lc := by
  rw [drop_rd zs i h0 h]; simp [foldB, hn]
theorem nextB_last (zs : List Seg) (x : Seg) (i : Int) (h : i + 1 = zs.length) : nextB x (zs.drop (i + 1).toNat) = true := by
  rw [List.drop_of_length_le (by omega)]; rfl
theorem nextB_more (zs : List Seg) (x : Seg) (i : Int) (h0 : 0 ≤ i) (h : i + 1 < zs.length) : nextB x (zs.drop (i + 1).toNat) = !((rdE zs (i + 1)).f0 == x.f0) := by
  rw [drop_rd zs (i + 1) (by omega) h]; rfl
theorem side_S (g : Nat) (w : World) (hg : w.heap.size ≤ g) (rv : Value) : Side Try.prog g 103 #[rv] #[] cmpS (fun W => Below w.heap.size w W ∧ g < W.heap.size) where
  cmp x y W hW := (compare_calls rv x y W).mono (by
    rintro e W' ⟨rfl, hb⟩
    exact ⟨rfl, ⟨below_step hW.1 hb, Nat.lt_of_lt_of_le hW.2 hb.size⟩, fun ob h => blk_below h hb⟩)
  set W j v hW := ⟨below_set hW.1 hg, by simpa using hW.2⟩
  drew W hW := ⟨below_drew hW.1, hW.2⟩
def FoldPost (w : World) (xs : List Seg) (e : Ending) (w' : World) : Prop := ∃ v, e = .returned v ∧ Kd.R kSeg 30 w' w.heap.size (fun _ => True) v (foldF xs) ∧ Below w.heap.size w w'
set_option maxHeartbeats 1000000 in
set_option maxRecDepth 100000 in
theorem folded_calls (A : Option Addr) (c : Nat) (xs : List Seg) (w : World) (HC : Kd.C kSeg w A xs.length xs) (hn : xs.length ≤ 1000000000) :
    Calls Try.prog 56 #[.slice A xs.length c] w (FoldPost w xs) := by
  have hu30 := Try.underlying30
  have hu28 := Try.underlying28
  have H := clone_calls A c xs w HC hn
  have HK := Aside0.mk H
  clear H HC
  have eg : ∀ args w, (callFunc 103 args).run Try.prog w = .ok (.enter 103 args) w := fun _ _ => rfl
  have eg2 : ∀ args w, (callFunc 104 args).run Try.prog w = .ok (.enter 104 args) w := fun _ _ => rfl
  go_enter Try.func56, Try.ntmps56
  go_wp2_with fail
  refine HK.out.mono ?_
  rintro e w1 ⟨v, rfl, hv, hb⟩
  have HB := Aside0.mk hb
  clear HK hb
  obtain ⟨inner, ho, hr⟩ := hv.2
  rcases ho.2 with ⟨rfl, h0⟩ | ⟨g, cap, cur, rfl, hg, hgb, hcap, hmx, hsz, htk⟩
  · have hx : xs = [] := List.eq_nil_of_length_eq_zero h0
    subst hx
    clear ho hr hv h0
    go_wp2_with fail
    refine (sortStable_nil 103 0 #[.slice none 0 0] #[] _).mono ?_
    rintro e w2 ⟨rfl, rfl⟩
    go_wp2
    refine wp_loop_rounds 2 ?_
    rw [rounds_succ]
    go_wp2
    go_ret
    refine ⟨_, rfl, Kd.R_nil _ _ _ _ _, ?_⟩
    repeat (first | exact HB.out | apply below_alloc)
  · obtain ⟨A2, c2, hsl, _, hC⟩ := Kd.R_reads hv
    cases hsl
    have hrow := row_of_C hgb hC hsz (Nat.mul_le_mul_right _ hcap)
    clear hv ho hr hC htk hsz
    have hgl : g < w1.heap.size := blk_lt hgb
    go_wp2_with fail
    refine (sortStable_calls 103 #[_] #[] cmpS swoS g (cap * 3) cap xs.length _ (side_S g w hg _) eg xs _ ⟨HB.out, hgl⟩ hrow hn rfl).mono ?_
    rintro e w2 ⟨rfl, ⟨hB2, hgl2⟩, hrow2⟩
    clear hrow hgb HB hgl
    obtain ⟨zs, hzs⟩ : ∃ zs, zs = sortS (ltB cmpS) xs := ⟨_, rfl⟩
    have hzl : zs.length = xs.length := by rw [hzs]; exact (sortS_stb swoS xs).1.symm
    rw [← hzs] at hrow2
    obtain ⟨cs, hcb, hcs, hcl, hH⟩ := hrow2
    go_upto_region 6 with fail
    have hO : OutAt w.heap.size (w2.heap.size + 1) w2.heap.size g (.cells cs 30 (0, 0)) w [] 0 0 ((w2.alloc (.cells #[.slice none 0 0] 22)).alloc (.cells #[.int .i64 0, .int .i64 0] 28)) := by
      have hB3 := hB2.size
      refine ⟨(hB2.alloc hB3 _).alloc (by simp; omega) _, by simp; omega, ?_, ⟨_, blk_alloc (blk_new w2 _) _, Kd.R_nil _ _ _ _ _⟩, blk_alloc (blk_alloc hcb _) _⟩
      have := blk_new (w2.alloc (.cells #[.slice none 0 0] 22)) (.cells #[.int .i64 0, .int .i64 0] 28)
      simpa using this
    have hg1 : g ≠ w2.heap.size + 1 := by omega
    have hg2 : g ≠ w2.heap.size := by omega
    have hw1 : w.heap.size ≤ w2.heap.size + 1 := by have := hB2.size; omega
    have hw2 : w.heap.size ≤ w2.heap.size := hB2.size
    have heg2 := eg2
    clear eg
    obtain ⟨w3, hw3⟩ : ∃ w3, w3 = ((w2.alloc (.cells #[.slice none 0 0] 22)).alloc (.cells #[.int .i64 0, .int .i64 0] 28)) := ⟨_, rfl⟩
    rw [← hw3] at hO ⊢
    obtain ⟨b5, hb5⟩ : ∃ b5, b5 = w2.heap.size + 1 := ⟨_, rfl⟩
    obtain ⟨b4, hb4⟩ : ∃ b4, b4 = w2.heap.size := ⟨_, rfl⟩
    rw [← hb5] at hO hg1 hw1 ⊢
    rw [← hb4] at hO hg2 hw2 ⊢
    have HO := Aside0.mk hO
    have HN := Aside0.mk (And.intro hg1 (And.intro hg2 (And.intro hw1 (And.intro hw2 (And.intro hcl (And.intro hH (And.intro hzl hzs)))))))
    clear hO hb5 hb4 hw3 hcb hcl hH hcs hB2 hgl2 hzs hg hg1 hg2 hw1 hw2 hcap hmx
    obtain ⟨n, hnn⟩ : ∃ n : Int, n = (xs.length : Int) := ⟨_, rfl⟩
    have HNN := Aside0.mk hnn
    have hn1 : n ≤ 1000000000 := by omega
    have hnx : (xs.length : Int) = n := hnn.symm
    clear hn hnn
    go_wp2
    go_loopw [18] (fun v18 wr => ∃ i : Int, v18 = .int .i64 i ∧ 0 ≤ i ∧ i ≤ n ∧ Aside0 (∃ acc lm lc, OutAt w.heap.size b5 b4 g (.cells cs 30 (0, 0)) w acc lm lc wr ∧ foldB (zs.drop i.toNat) acc lm lc = foldF xs ∧ (acc.length : Int) ≤ i)) (fun v18 _ => (n - intOf v18).toNat)
    case atStart => exact ⟨0, rfl, by omega, by have := HNN.out; omega, ⟨[], 0, 0, HO.out, by rw [HN.out.2.2.2.2.2.2.2]; rfl, by simp⟩⟩
    case round =>
      clear HO
      obtain ⟨i, rfl, hi0, hin, HA⟩ := hrel
      have hn0 := HNN.out
      by_cases hlt : i < n
      · obtain ⟨acc, lm, lc, hO, hF, hal⟩ := HA.out
        have hil : i < zs.length := by have := HN.out.2.2.2.2.2.2.1; omega
        obtain ⟨x0, x1, x2⟩ := holds_int HN.out.2.2.2.2.2.1 i hi0 hil
        obtain ⟨x, hx⟩ : ∃ x, x = rdE zs i := ⟨_, rfl⟩
        rw [← hx] at x0 x1 x2
        have hlt' : i < (xs.length : Int) := by omega
        have p0 := (blk_cell hO.row (i.toNat * 3)).trans x0
        have p1 := (blk_cell hO.row (i.toNat * 3 + 1)).trans x1
        have p2 := (blk_cell hO.row (i.toNat * 3 + 2)).trans x2
        have HF := Aside0.mk (And.intro hF (And.intro hal (And.intro hx hil)))
        have HO := Aside0.mk hO
        clear HA hO hF hal hx hil x0 x1 x2 hn0
        go_upto_region 9 with fail
        have hO4 := HO.out.step (below_alloc (Below.refl _ _) (.cells #[.int .i64 x.f0, .int .i64 x.f1.f0, .int .i64 x.f1.f1] 30))
        have d8 := blk_new wr (.cells #[.int .i64 x.f0, .int .i64 x.f1.f0, .int .i64 x.f1.f1] 30)
        obtain ⟨w4, hw4⟩ : ∃ w4, w4 = wr.alloc (.cells #[.int .i64 x.f0, .int .i64 x.f1.f0, .int .i64 x.f1.f1] 30) := ⟨_, rfl⟩
        obtain ⟨b8, hb8⟩ : ∃ b8, b8 = wr.heap.size := ⟨_, rfl⟩
        rw [← hw4] at hO4 d8 ⊢
        rw [← hb8] at d8 ⊢
        have e80 : w4.cell? ⟨b8, 0, none⟩ = some (.int .i64 x.f0) := (blk_cell d8 0).trans rfl
        have e81 : w4.cell? ⟨b8, 1, none⟩ = some (.int .i64 x.f1.f0) := (blk_cell d8 1).trans rfl
        have e82 : w4.cell? ⟨b8, 2, none⟩ = some (.int .i64 x.f1.f1) := (blk_cell d8 2).trans rfl
        have HO4 := Aside0.mk hO4
        have hwi : IntKind.i64.wrap (i + 1) = i + 1 := by rw [IntKind.wrap_i64]; omega
        clear HO hO4 d8 hw4 hb8 p0 p1 p2
        by_cases hla : i + 1 = n
        · have hq : ((i + 1 : Int) == n) = true := by simp [hla]
          have HLA := Aside0.mk hla
          clear hla
          go_quiet (fail)
          go_wp2_with fail
          refine (put_calls x lm lc b5 b4 g w.heap.size _ acc w _ HN.out.2.2.1 HN.out.2.2.2.1 HN.out.1 HN.out.2.1 (HO4.out.step (pw_below_drewN (Below.refl _ _) _)) (by have := HF.out.2.1; omega)).mono ?_
          rintro e w5 ⟨rfl, h5⟩
          have HR : Aside0 (∃ acc lm lc, OutAt w.heap.size b5 b4 g (.cells cs 30 (0, 0)) w acc lm lc w5 ∧ foldB (zs.drop (i + 1).toNat) acc lm lc = foldF xs ∧ (acc.length : Int) ≤ i + 1) := by
            have hx := HF.out.2.2.1
            have hgo := foldB_go zs acc lm lc i hi0 HF.out.2.2.2 (by rw [← HF.out.2.2.1]; exact nextB_last zs x i (by have := HLA.out; have := HN.out.2.2.2.2.2.2.1; have := HNN.out; omega))
            rw [HF.out.1, ← hx] at hgo
            cases hp : putB x lm lc <;> rw [hp] at h5 hgo
            · exact ⟨acc, lm, lc, h5, hgo.symm, by have := HF.out.2.1; omega⟩
            · exact ⟨_, _, _, h5, hgo.symm, by have := HF.out.2.1; simp; omega⟩
          clear h5 HF HO4
          go_wp2
          go_roundw
          case rel => exact ⟨i + 1, rfl, by omega, by omega, HR⟩
          case measure => simp [intOf]; omega
        · have hq : ((i + 1 : Int) == n) = false := by simp [hla]
          have hlt2 : i + 1 < n := by omega
          have hlt3 : i + 1 < (zs.length : Int) := by have := HN.out.2.2.2.2.2.2.1; have := HNN.out; omega
          obtain ⟨y, hy⟩ : ∃ y, y = rdE zs (i + 1) := ⟨_, rfl⟩
          obtain ⟨y0, y1, y2⟩ := holds_int HN.out.2.2.2.2.2.1 (i + 1) (by omega) hlt3
          rw [← hy] at y0
          have q0 := (blk_cell HO4.out.row ((i + 1).toNat * 3)).trans y0
          have hi1 : 0 ≤ i + 1 := by omega
          have hnb := nextB_more zs x i hi0 hlt3
          rw [← hy] at hnb
          have HNB := Aside0.mk hnb
          clear hla y0 y1 y2 hy hnb hlt3
          by_cases hyx : y.f0 = x.f0
          · have hyq : (y.f0 != x.f0) = false := by simp [hyx]
            have hnx' : nextB x (zs.drop (i + 1).toNat) = false := by rw [HNB.out, hyx]; simp
            have HNX := Aside0.mk hnx'
            clear hyx hnx'
            go_quiet (fail)
            go_wp2_with fail
            have HR : Aside0 (∃ acc lm lc, OutAt w.heap.size b5 b4 g (.cells cs 30 (0, 0)) w acc lm lc (w4.drewN nq) ∧ foldB (zs.drop (i + 1).toNat) acc lm lc = foldF xs ∧ (acc.length : Int) ≤ i + 1) := by
              have hst := foldB_stay zs acc lm lc i hi0 HF.out.2.2.2 (by rw [← HF.out.2.2.1]; exact HNX.out)
              rw [HF.out.1] at hst
              exact ⟨acc, lm, lc, HO4.out.step (pw_below_drewN (Below.refl _ _) _), hst.symm, by have := HF.out.2.1; omega⟩
            clear HF HO4
            go_roundw
            case rel => exact ⟨i + 1, rfl, by omega, by omega, HR⟩
            case measure => simp [intOf]; omega
          · have hyq : (y.f0 != x.f0) = true := by simp [hyx]
            have hnx' : nextB x (zs.drop (i + 1).toNat) = true := by rw [HNB.out]; simp [hyx]
            have HNX := Aside0.mk hnx'
            clear hyx hnx'
            go_quiet (fail)
            go_wp2_with fail
            refine (put_calls x lm lc b5 b4 g w.heap.size _ acc w _ HN.out.2.2.1 HN.out.2.2.2.1 HN.out.1 HN.out.2.1 (HO4.out.step (pw_below_drewN (Below.refl _ _) _)) (by have := HF.out.2.1; omega)).mono ?_
            rintro e w5 ⟨rfl, h5⟩
            have HR : Aside0 (∃ acc lm lc, OutAt w.heap.size b5 b4 g (.cells cs 30 (0, 0)) w acc lm lc w5 ∧ foldB (zs.drop (i + 1).toNat) acc lm lc = foldF xs ∧ (acc.length : Int) ≤ i + 1) := by
              have hx := HF.out.2.2.1
              have hgo := foldB_go zs acc lm lc i hi0 HF.out.2.2.2 (by rw [← HF.out.2.2.1]; exact HNX.out)
              rw [HF.out.1, ← hx] at hgo
              cases hp : putB x lm lc <;> rw [hp] at h5 hgo
              · exact ⟨acc, lm, lc, h5, hgo.symm, by have := HF.out.2.1; omega⟩
              · exact ⟨_, _, _, h5, hgo.symm, by have := HF.out.2.1; simp; omega⟩
            clear h5 HF HO4
            go_wp2
            go_roundw
            case rel => exact ⟨i + 1, rfl, by omega, by omega, HR⟩
            case measure => simp [intOf]; omega
      · have HR : Aside0 (∃ v, wr.heap[b4]? = some (.cells #[v] 22 (0, 0)) ∧ Kd.R kSeg 30 wr w.heap.size (fun _ => True) v (foldF xs) ∧ Below w.heap.size w wr) := by
          obtain ⟨acc, lm, lc, hO, hF, hal⟩ := HA.out
          obtain ⟨v, h1, h2⟩ := hO.c2
          rw [List.drop_of_length_le (by have := HN.out.2.2.2.2.2.2.1; omega)] at hF
          exact ⟨v, h1, by rw [← hF]; exact Kd.R_mono h2 (fun _ _ => trivial), hO.below⟩
        obtain ⟨v, h1, h2⟩ := HR.out
        have H2 := Aside0.mk h2
        have e40 : wr.cell? ⟨b4, 0, none⟩ = some v := (blk_cell h1 0).trans rfl
        clear HR HA h1 h2 hn0
        go_wp2
        go_ret
        exact ⟨v, rfl, H2.out.1, H2.out.2⟩
end Go.Proofs.Ytddbnncimggogaa.Lv
