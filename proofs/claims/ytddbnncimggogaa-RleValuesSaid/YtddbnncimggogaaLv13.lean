/- liverylaw02.RleValues, walked. -/
import Derived.Test.YtddbnncimggogaaLv11
import Derived.Test.YtddbnncimggogaaLv12
namespace Go.Proofs.Ytddbnncimggogaa.Lv
open Go.RowKit Go.Proofs.YtddbnncimggogaaW.PrintWords Go.Proofs.YtddbnncimggogaaW.PrintLast Go.Proofs.YtddbnncimggogaaW.PrintMore Go.Proofs.Ytddbnncimggogaa.Pb Go.Proofs.Ytddbnncimggogaa.SP Go.Proofs.Ytddbnncimggogaa.StSeg
attribute [local go_sem high] eqA28
def tmL (a : Int) : List Int := [a, a - 1, 1125899906842629]
theorem tm_get (a k : Int) (h0 : 0 ≤ k) (h1 : k < 3) : (#[Value.int .i64 a, .int .i64 (a - 1), .int .i64 1125899906842629] : Array Value)[k.toNat]? = some (.int .i64 ((tmL a).getD k.toNat 0)) := by
  have : k = 0 ∨ k = 1 ∨ k = 2 := by omega
  rcases this with rfl | rfl | rfl <;> rfl
theorem inS_at {xs : List Seg} (h : xs.all inS = true) (i : Int) (h0 : 0 ≤ i) (h1 : i < xs.length) : -1125899906842624 ≤ (rdE xs i).f0 ∧ (rdE xs i).f0 ≤ 1125899906842624 := by
  have hl : i.toNat < xs.length := by omega
  have e : rdE xs i = xs[i.toNat] := by simp [rdE, List.getD_eq_getElem?_getD, List.getElem?_eq_getElem hl]
  have := List.all_eq_true.1 h xs[i.toNat] (List.getElem_mem hl)
  rw [← e] at this
  simp only [inS, Bool.and_eq_true, decide_eq_true_eq] at this
  exact this.1
set_option maxHeartbeats 4000000 in
set_option maxRecDepth 100000 in
theorem values_calls (A : Option Addr) (c : Nat) (xs : List Seg) (w : World) (HC : Kd.C kSeg w A xs.length xs) :
    Calls Try.prog 3 #[.slice A xs.length c] w fun e w' => e = .returned (.bool true) ∧ Below w.heap.size w w' := by
  have hu30 := Try.underlying30
  have hu28 := Try.underlying28
  obtain ⟨n, hn⟩ : ∃ n : Int, n = (xs.length : Int) := ⟨_, rfl⟩
  have hnx : (xs.length : Int) = n := hn.symm
  have HN := Aside0.mk hn
  clear hn
  by_cases h60 : n > 60
  · have hd : decide (60 < n) = true := decide_eq_true h60
    have HH := Aside0.mk (fun W => head_calls W)
    clear HC
    go_enter Try.func3, Try.ntmps3
    go_wp2_with fail
    refine (HH.out _).mono ?_
    rintro e w1 ⟨rfl, hb⟩
    have HB := Aside0.mk hb
    clear hb
    go_wp2
    go_ret
    exact ⟨rfl, HB.out⟩
  · have hd : decide (60 < n) = false := decide_eq_false h60
    have hn60 : n ≤ 60 := by omega
    have hn0 : 0 ≤ n := by omega
    have HOF := Aside0.mk (of_calls A c xs w HC (by omega))
    have HRW := Aside0.mk HC
    clear HC h60
    go_enter Try.func3, Try.ntmps3
    go_wp2_with fail
    refine HOF.out.mono ?_
    rintro e w1 h
    clear HOF
    rcases h with ⟨hall, v, rfl, hv, hb⟩ | ⟨hall, rfl, hb⟩
    rotate_left
    · have HB := Aside0.mk hb
      clear hb hall HRW
      go_wp2_with fail
      refine (head_calls _).mono ?_
      rintro e w2 ⟨rfl, hb⟩
      have HB2 := Aside0.mk (below_step HB.out hb)
      clear hb HB
      go_wp2
      go_ret
      exact ⟨rfl, HB2.out⟩
    · obtain ⟨A1, c1, rfl, hc1, hC1⟩ := Kd.R_reads hv
      obtain ⟨m, hm⟩ : ∃ m : Int, m = ((foldF xs).length : Int) := ⟨_, rfl⟩
      have hmx : ((foldF xs).length : Int) = m := hm.symm
      have hmn : m ≤ n := by have := foldF_len xs; omega
      have hm0 : 0 ≤ m := by omega
      have HM := Aside0.mk hm
      have HF := Aside0.mk (And.intro hc1 (And.intro hC1 hall))
      have HR1 := Aside0.mk (Kd.C_below HRW.out hb)
      have HB := Aside0.mk hb
      clear hv hc1 hC1 hall hb HRW hm
      go_wp2
      go_loopw [5] (fun v5 wr => ∃ i : Int, v5 = .int .i64 i ∧ 0 ≤ i ∧ i ≤ n ∧ Aside0 (Below w1.heap.size w1 wr)) (fun v5 _ => (n - intOf v5).toNat)
      case atStart => exact ⟨0, rfl, by omega, by omega, ⟨Below.refl _ _⟩⟩
      case round =>
        obtain ⟨i, rfl, hi0, hin, HBi⟩ := hrel
        by_cases hlt : i < n
        · have hil : i < (xs.length : Int) := by rw [← HN.out]; exact hlt
          obtain ⟨ad, e, x0, x1, x2⟩ := at_T30 (Kd.C_below HR1.out HBi.out) i hi0 hil
          cases e
          obtain ⟨x, hx⟩ : ∃ x, x = rd_T30 xs i := ⟨_, rfl⟩
          rw [← hx] at x0 x1 x2
          have hrg := inS_at HF.out.2.2 i hi0 hil
          rw [show rdE xs i = x from hx.symm] at hrg
          obtain ⟨a, ha⟩ : ∃ a, a = x.f0 := ⟨_, rfl⟩
          rw [← ha] at x0 hrg
          obtain ⟨hr1, hr2⟩ := hrg
          have hwa : IntKind.i64.wrap (a - 1) = a - 1 := by rw [IntKind.wrap_i64]; omega
          clear hx x1 x2 ha
          go_wp2
          go_region
          have dT := blk_drew (blk_new wr (.cells #[.int .i64 a, .int .i64 (a - 1), .int .i64 1125899906842629] 2))
          have bT : Below w1.heap.size w1 (wr.alloc (.cells #[.int .i64 a, .int .i64 (a - 1), .int .i64 1125899906842629] 2)).drew := below_drew (below_alloc HBi.out _)
          have gT : w1.heap.size ≤ wr.heap.size := HBi.out.size
          obtain ⟨w2, hw2⟩ : ∃ w2, w2 = (wr.alloc (.cells #[.int .i64 a, .int .i64 (a - 1), .int .i64 1125899906842629] 2)).drew := ⟨_, rfl⟩
          obtain ⟨tb, htb⟩ : ∃ tb, tb = wr.heap.size := ⟨_, rfl⟩
          rw [← hw2] at dT bT ⊢
          rw [← htb] at dT gT ⊢
          have HT := Aside0.mk (And.intro bT dT)
          clear hw2 htb dT bT x0 HBi
          go_wp2
          go_loopw [7] (fun v7 wr => ∃ k : Int, v7 = .int .i64 k ∧ 0 ≤ k ∧ k ≤ 3 ∧ Aside0 (Below w1.heap.size w1 wr ∧ wr.heap[tb]? = some (.cells #[.int .i64 a, .int .i64 (a - 1), .int .i64 1125899906842629] 2 (0, 0)))) (fun v7 _ => (3 - intOf v7).toNat)
          case atStart => exact ⟨0, rfl, by omega, by omega, HT⟩
          case round =>
            clear HT
            obtain ⟨k, rfl, hk0, hk3, HK⟩ := hrel
            by_cases hkl : k < 3
            · obtain ⟨t, ht⟩ : ∃ t, t = (tmL a).getD k.toNat 0 := ⟨_, rfl⟩
              have hst : ∀ (W : World), W.heap[tb]? = some (.cells #[.int .i64 a, .int .i64 (a - 1), .int .i64 1125899906842629] 2 (0, 0)) → W.cell? ⟨tb, k.toNat, none⟩ = some (.int .i64 t) := fun W h => by rw [blk_cell h, ht]; exact tm_get a k hk0 hkl
              have HST := Aside0.mk hst
              clear hst ht
              go_upto_region 14 with fail
              have dW := blk_new wr (.cells #[.int .i64 0, .int .i64 0] 28)
              have dT := blk_alloc HK.out.2 (.cells #[.int .i64 0, .int .i64 0] 28)
              have bT := below_alloc HK.out.1 (.cells #[.int .i64 0, .int .i64 0] 28)
              have gW : w1.heap.size ≤ wr.heap.size := HK.out.1.size
              have nTW : tb ≠ wr.heap.size := Nat.ne_of_lt (blk_lt HK.out.2)
              obtain ⟨w3, hw3⟩ : ∃ w3, w3 = wr.alloc (.cells #[.int .i64 0, .int .i64 0] 28) := ⟨_, rfl⟩
              obtain ⟨wb, hwb⟩ : ∃ wb, wb = wr.heap.size := ⟨_, rfl⟩
              rw [← hw3] at dW dT bT ⊢
              rw [← hwb] at dW gW nTW ⊢
              have HW := Aside0.mk (And.intro bT (And.intro dT dW))
              have NTW := Aside0.mk nTW
              have ntw1 : ¬ tb = wb := nTW
              have ntw2 : ¬ wb = tb := fun h => nTW h.symm
              clear hw3 hwb dW dT bT HK nTW
              go_wp2
              go_loopw [9, 10, 11] (fun v9 v10 v11 wr => ∃ (sm sc sa : Int) (si : Bool) (j : Int), v9 = .int .i64 sa ∧ v10 = .bool si ∧ v11 = .int .i64 j ∧ 0 ≤ j ∧ j ≤ n ∧ Aside0 (Below w1.heap.size w1 wr ∧ wr.heap[tb]? = some (.cells #[.int .i64 a, .int .i64 (a - 1), .int .i64 1125899906842629] 2 (0, 0)) ∧ wr.heap[wb]? = some (.cells #[.int .i64 sm, .int .i64 sc] 28 (0, 0)) ∧ (xs.drop j.toNat).foldl (stepW t) ⟨⟨sm, sc⟩, sa, si⟩ = xs.foldl (stepW t) s0)) (fun _ _ v11 _ => (n - intOf v11).toNat)
              case atStart => exact ⟨0, 0, 0, false, 0, rfl, rfl, rfl, by omega, by omega, ⟨HW.out.1, HW.out.2.1, HW.out.2.2, rfl⟩⟩
              case round =>
                clear HW
                obtain ⟨sm, sc, sa, si, j, rfl, rfl, rfl, hj0, hjn, HJ⟩ := hrel
                by_cases hjl : j < n
                · have hjx : j < (xs.length : Int) := by rw [← HN.out]; exact hjl
                  obtain ⟨ad', e', y0, y1, y2⟩ := at_T30 (Kd.C_below HR1.out HJ.out.1) j hj0 hjx
                  cases e'
                  have hdr := drop_rd xs j hj0 hjx
                  obtain ⟨y, hy⟩ : ∃ y, y = rd_T30 xs j := ⟨_, rfl⟩
                  rw [show rdE xs j = y from hy.symm] at hdr
                  rw [← hy] at y0 y1 y2
                  have tk := HST.out _ HJ.out.2.1
                  have hnb : (ad.add (j.toNat * 3)).block ≠ wb := by
                    obtain ⟨ad2, e2, q0, _, _⟩ := at_T30 HR1.out j hj0 hjx
                    cases e2
                    have := World.block_lt_of_cell? _ _ q0
                    omega
                  have y0w : ∀ nq : Nat, (((wr.drewN nq).setCell ⟨wb, 0, none⟩ (.int .i64 y.f1.f0)).setCell ⟨wb, 1, none⟩ (.int .i64 y.f1.f1)).cell? (ad.add (j.toNat * 3)) = some (.int .i64 y.f0) := fun nq => (cell_far (p := ⟨wb, 1, none⟩) hnb _).trans ((cell_far (p := ⟨wb, 0, none⟩) hnb _).trans y0)
                  have HNB := Aside0.mk hnb
                  clear hnb
                  have hfo := HJ.out.2.2.2
                  rw [hdr, List.foldl_cons] at hfo
                  have HFO := Aside0.mk hfo
                  have z1 := blk_frozen HJ.out.2.2.1 0
                  have z2 := blk_frozen HJ.out.2.2.1 1
                  have v1 : wr.cell? ⟨wb, 0, none⟩ = some (.int .i64 sm) := (blk_cell HJ.out.2.2.1 0).trans rfl
                  have v2 : wr.cell? ⟨wb, 1, none⟩ = some (.int .i64 sc) := (blk_cell HJ.out.2.2.1 1).trans rfl
                  clear hy hdr hfo
                  go_upto_region 17 with fail
                  by_cases hyt : y.f0 ≤ t
                  · have g1 : decide (y.f0 ≤ t) = true := decide_eq_true hyt
                    by_cases hac : si = false ∨ sa ≤ y.f0
                    · have hsx : stepW t ⟨⟨sm, sc⟩, sa, si⟩ y = ⟨y.f1, y.f0, true⟩ := if_pos ⟨hyt, hac⟩
                      have HSX := Aside0.mk hsx
                      clear hsx
                      cases si with
                      | false =>
                        clear hac
                        have HE : Aside0 (∀ nq : Nat, Below w1.heap.size w1 (((wr.drewN nq).setCell ⟨wb, 0, none⟩ (.int .i64 y.f1.f0)).setCell ⟨wb, 1, none⟩ (.int .i64 y.f1.f1)) ∧ (((wr.drewN nq).setCell ⟨wb, 0, none⟩ (.int .i64 y.f1.f0)).setCell ⟨wb, 1, none⟩ (.int .i64 y.f1.f1)).heap[tb]? = some (.cells #[.int .i64 a, .int .i64 (a - 1), .int .i64 1125899906842629] 2 (0, 0)) ∧ (((wr.drewN nq).setCell ⟨wb, 0, none⟩ (.int .i64 y.f1.f0)).setCell ⟨wb, 1, none⟩ (.int .i64 y.f1.f1)).heap[wb]? = some (.cells #[.int .i64 y.f1.f0, .int .i64 y.f1.f1] 28 (0, 0)) ∧ (xs.drop (j + 1).toNat).foldl (stepW t) ⟨⟨y.f1.f0, y.f1.f1⟩, y.f0, true⟩ = xs.foldl (stepW t) s0) :=
                          ⟨fun nq => ⟨((pw_below_drewN HJ.out.1 nq).setCell gW _).setCell gW _, blk_far (blk_far (blk_drewN HJ.out.2.1 nq) NTW.out _) NTW.out _, blk_put (blk_put (blk_drewN HJ.out.2.2.1 nq) 0 _ rfl) 1 _ rfl, by have := HFO.out; rw [HSX.out] at this; exact this⟩⟩
                        clear HJ HFO HSX
                        go_quiet (fail)
                        go_wp2
                        go_roundw
                        case rel => exact ⟨y.f1.f0, y.f1.f1, y.f0, true, j + 1, rfl, rfl, rfl, by omega, by omega, ⟨HE.out _⟩⟩
                        case measure => simp [intOf]; omega
                      | true =>
                        have hge : sa ≤ y.f0 := by rcases hac with h | h; cases h; exact h
                        have g2 : decide (sa ≤ y.f0) = true := decide_eq_true hge
                        clear hac
                        have HE : Aside0 (∀ nq : Nat, Below w1.heap.size w1 (((wr.drewN nq).setCell ⟨wb, 0, none⟩ (.int .i64 y.f1.f0)).setCell ⟨wb, 1, none⟩ (.int .i64 y.f1.f1)) ∧ (((wr.drewN nq).setCell ⟨wb, 0, none⟩ (.int .i64 y.f1.f0)).setCell ⟨wb, 1, none⟩ (.int .i64 y.f1.f1)).heap[tb]? = some (.cells #[.int .i64 a, .int .i64 (a - 1), .int .i64 1125899906842629] 2 (0, 0)) ∧ (((wr.drewN nq).setCell ⟨wb, 0, none⟩ (.int .i64 y.f1.f0)).setCell ⟨wb, 1, none⟩ (.int .i64 y.f1.f1)).heap[wb]? = some (.cells #[.int .i64 y.f1.f0, .int .i64 y.f1.f1] 28 (0, 0)) ∧ (xs.drop (j + 1).toNat).foldl (stepW t) ⟨⟨y.f1.f0, y.f1.f1⟩, y.f0, true⟩ = xs.foldl (stepW t) s0) :=
                          ⟨fun nq => ⟨((pw_below_drewN HJ.out.1 nq).setCell gW _).setCell gW _, blk_far (blk_far (blk_drewN HJ.out.2.1 nq) NTW.out _) NTW.out _, blk_put (blk_put (blk_drewN HJ.out.2.2.1 nq) 0 _ rfl) 1 _ rfl, by have := HFO.out; rw [HSX.out] at this; exact this⟩⟩
                        clear HJ HFO HSX
                        go_quiet (fail)
                        go_wp2
                        go_roundw
                        case rel => exact ⟨y.f1.f0, y.f1.f1, y.f0, true, j + 1, rfl, rfl, rfl, by omega, by omega, ⟨HE.out _⟩⟩
                        case measure => simp [intOf]; omega
                    · have hsx : stepW t ⟨⟨sm, sc⟩, sa, si⟩ y = ⟨⟨sm, sc⟩, sa, si⟩ := if_neg (fun q => hac q.2)
                      have hsi : si = true := by cases si; exact absurd (.inl rfl) hac; rfl
                      have hlt5 : ¬ sa ≤ y.f0 := fun q => hac (.inr q)
                      have g2 : decide (sa ≤ y.f0) = false := decide_eq_false hlt5
                      subst hsi
                      have HE : Aside0 (∀ nq : Nat, Below w1.heap.size w1 (wr.drewN nq) ∧ (wr.drewN nq).heap[tb]? = some (.cells #[.int .i64 a, .int .i64 (a - 1), .int .i64 1125899906842629] 2 (0, 0)) ∧ (wr.drewN nq).heap[wb]? = some (.cells #[.int .i64 sm, .int .i64 sc] 28 (0, 0)) ∧ (xs.drop (j + 1).toNat).foldl (stepW t) ⟨⟨sm, sc⟩, sa, true⟩ = xs.foldl (stepW t) s0) :=
                        ⟨fun nq => ⟨pw_below_drewN HJ.out.1 nq, blk_drewN HJ.out.2.1 nq, blk_drewN HJ.out.2.2.1 nq, by have := HFO.out; rw [hsx] at this; exact this⟩⟩
                      clear HJ HFO hac hsx
                      go_quiet (fail)
                      go_wp2
                      go_roundw
                      case rel => exact ⟨sm, sc, sa, true, j + 1, rfl, rfl, rfl, by omega, by omega, ⟨HE.out _⟩⟩
                      case measure => simp [intOf]; omega
                  · have hsx : stepW t ⟨⟨sm, sc⟩, sa, si⟩ y = ⟨⟨sm, sc⟩, sa, si⟩ := if_neg (fun q => hyt q.1)
                    have g1 : decide (y.f0 ≤ t) = false := decide_eq_false hyt
                    have HE : Aside0 (∀ nq : Nat, Below w1.heap.size w1 (wr.drewN nq) ∧ (wr.drewN nq).heap[tb]? = some (.cells #[.int .i64 a, .int .i64 (a - 1), .int .i64 1125899906842629] 2 (0, 0)) ∧ (wr.drewN nq).heap[wb]? = some (.cells #[.int .i64 sm, .int .i64 sc] 28 (0, 0)) ∧ (xs.drop (j + 1).toNat).foldl (stepW t) ⟨⟨sm, sc⟩, sa, si⟩ = xs.foldl (stepW t) s0) :=
                      ⟨fun nq => ⟨pw_below_drewN HJ.out.1 nq, blk_drewN HJ.out.2.1 nq, blk_drewN HJ.out.2.2.1 nq, by have := HFO.out; rw [hsx] at this; exact this⟩⟩
                    clear HJ HFO hsx
                    go_quiet (fail)
                    go_wp2
                    go_roundw
                    case rel => exact ⟨sm, sc, sa, si, j + 1, rfl, rfl, rfl, by omega, by omega, ⟨HE.out _⟩⟩
                    case measure => simp [intOf]; omega
                · have hwant : atF (foldF xs) t = ⟨sm, sc⟩ := by
                    have := HJ.out.2.2.2
                    rw [List.drop_of_length_le (by have := HN.out; omega)] at this
                    rw [at_fold]
                    unfold wantF
                    rw [← this]
                    rfl
                  have inst : Inhabited (InB wr) := inferInstance
                  have tk := fun p : InB wr => InB.cell (HST.out _ HJ.out.2.1) p
                  have v1 : ∀ p : InB wr, p.W.cell? ⟨wb, 0, none⟩ = some (.int .i64 sm) := fun p => InB.cell ((blk_cell HJ.out.2.2.1 0).trans rfl) p
                  have v2 : ∀ p : InB wr, p.W.cell? ⟨wb, 1, none⟩ = some (.int .i64 sc) := fun p => InB.cell ((blk_cell HJ.out.2.2.1 1).trans rfl) p
                  have hbj : Below w1.heap.size w1 wr := HJ.out.1
                  have HAT := Aside0.mk (fun p : InB wr => at_calls' A1 c1 (foldF xs) t p.W sm sc hwant (Kd.C_below (Kd.C_below HF.out.2.1 hbj) p.below) HF.out.1 (by have := HM.out; omega))
                  have HJB := Aside0.mk (And.intro hbj HJ.out.2.1)
                  clear hwant hbj HJ
                  go_wp2_with fail
                  refine wp_region_inB (by kernel_rfl) (by kernel_rfl) ?_
                  repeat (quiet_step ((go_at_call 17; exact Calls.inB (HAT.out _))))
                  refine wpQuiet_nil ?_
                  rintro _ ⟨⟨w6, hb6⟩, rfl⟩
                  try dsimp only
                  have HK2 := Aside0.mk (And.intro (below_step HJB.out.1 hb6) (blk_below HJB.out.2 hb6))
                  clear hb6 tk v1 v2 HAT HJB inst
                  go_wp2
                  go_roundw
                  case rel => exact ⟨k + 1, rfl, by omega, by omega, HK2⟩
                  case measure => simp [intOf]; omega
            · have HKB := Aside0.mk HK.out.1
              clear HK
              go_wp2
              go_roundw
              case rel => exact ⟨i + 1, rfl, by omega, by omega, HKB⟩
              case measure => simp [intOf]; omega
        · have hml : decide (m ≤ n) = true := decide_eq_true hmn
          go_wp2_with fail
          refine (head_calls _).mono ?_
          rintro e w5 ⟨rfl, hb⟩
          have HB5 := Aside0.mk (below_step (Below.trans HB.out (HBi.out.mono HB.out.size)) hb)
          clear hb
          go_wp2
          go_ret
          exact ⟨rfl, HB5.out⟩
end Go.Proofs.Ytddbnncimggogaa.Lv
