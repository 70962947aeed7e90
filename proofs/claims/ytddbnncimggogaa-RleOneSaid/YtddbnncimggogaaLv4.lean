/- rle.At. -/
import Derived.Test.YtddbnncimggogaaLv3
import Derived.WalkMore
import Derived.ScopeJumps
namespace Go.Proofs.Ytddbnncimggogaa.Lv
open Go.RowKit Go.Proofs.YtddbnncimggogaaW.PrintWords Go.Proofs.YtddbnncimggogaaW.PrintLast Go.Proofs.YtddbnncimggogaaW.PrintMore Go.Proofs.Ytddbnncimggogaa.Pb
/-- What the search between two places knows. -/
structure BS (xs : List Seg) (t lo hi : Int) : Prop where
  l0 : 0 ≤ lo
  lh : lo ≤ hi
  hn : hi ≤ xs.length
  le : ∀ j : Int, 0 ≤ j → j < lo → (rd_T30 xs j).f0 ≤ t
  gt : ∀ j : Int, hi ≤ j → j < xs.length → t < (rd_T30 xs j).f0
theorem up_le {xs : List Seg} (h : Up xs 0) : ∀ (d : Nat) (i : Nat), i + d < xs.length → (rd_T30 xs (i : Int)).f0 ≤ (rd_T30 xs ((i + d : Nat) : Int)).f0 := by
  intro d
  induction d with
  | zero => intro i hi; exact Int.le_refl _
  | succ d ih =>
    intro i hi
    have h1 := ih i (by omega)
    have h2 := h (i + d) (Nat.zero_le _) (by omega)
    have e : ((i + d : Nat) : Int) + 1 = ((i + (d + 1) : Nat) : Int) := by omega
    rw [e] at h2
    omega
theorem up_mono {xs : List Seg} (h : Up xs 0) (i j : Int) (h0 : 0 ≤ i) (hij : i ≤ j) (hj : j < xs.length) : (rd_T30 xs i).f0 ≤ (rd_T30 xs j).f0 := by
  have := up_le h (j - i).toNat i.toNat (by omega)
  have e1 : ((i.toNat : Nat) : Int) = i := by omega
  have e2 : ((i.toNat + (j - i).toNat : Nat) : Int) = j := by omega
  rwa [e1, e2] at this
theorem BS.start (xs : List Seg) (t : Int) : BS xs t 0 xs.length := ⟨by omega, by omega, by omega, fun j _ _ => by omega, fun j _ _ => by omega⟩
theorem BS.right {xs : List Seg} {t lo hi : Int} (h : BS xs t lo hi) (hu : Up xs 0) (hlt : lo < hi) (hle : (rd_T30 xs ((lo + hi) / 2)).f0 ≤ t) : BS xs t ((lo + hi) / 2 + 1) hi :=
  ⟨by have := h.l0; omega, by omega, h.hn, fun j h0 hj => Int.le_trans (up_mono hu j ((lo + hi) / 2) h0 (by omega) (by have := h.hn; omega)) hle, h.gt⟩
theorem BS.left {xs : List Seg} {t lo hi : Int} (h : BS xs t lo hi) (hu : Up xs 0) (hlt : lo < hi) (hle : t < (rd_T30 xs ((lo + hi) / 2)).f0) : BS xs t lo ((lo + hi) / 2) :=
  ⟨h.l0, by omega, by have := h.hn; omega, h.le, fun j h0 hj => Int.lt_of_lt_of_le hle (up_mono hu ((lo + hi) / 2) j (by have := h.l0; omega) h0 hj)⟩
theorem foldl_none (t : Int) (l : List Seg) (v : Vec) (h : ∀ x ∈ l, t < x.f0) : l.foldl (fun v x => if x.f0 ≤ t then x.f1 else v) v = v := by
  induction l with
  | nil => rfl
  | cons x l ih => rw [List.foldl_cons, if_neg (by have := h x (by simp); omega)]; exact ih fun y hy => h y (by simp [hy])
theorem BS.zero {xs : List Seg} {t lo hi : Int} (h : BS xs t lo hi) (hge : hi ≤ lo) (h0 : lo = 0) : atF xs t = z28 := by
  unfold atF
  refine foldl_none t xs _ fun x hx => ?_
  obtain ⟨i, hi', rfl⟩ := List.getElem_of_mem hx
  have := h.gt (i : Int) (by omega) (by omega)
  rwa [← rd_seg xs (i : Int) (by simpa using hi')] at this
theorem BS.last {xs : List Seg} {t lo hi : Int} (h : BS xs t lo hi) (hge : hi ≤ lo) (h0 : 0 < lo) : atF xs t = (rd_T30 xs (lo - 1)).f1 := by
  have hl := h.lh; have hn := h.hn
  obtain ⟨m, rfl⟩ : ∃ m : Nat, lo = (m : Int) + 1 := ⟨(lo - 1).toNat, by omega⟩
  have hm : m < xs.length := by omega
  have hsp : xs = xs.take m ++ xs[m] :: xs.drop (m + 1) := by rw [← List.drop_eq_getElem_cons hm]; simp
  have hq : rd_T30 xs ((m : Int) + 1 - 1) = xs[m] := by
    have : ((m : Int) + 1 - 1) = (m : Int) := by omega
    rw [this]; exact (rd_seg xs (m : Int) (by simpa using hm)).symm
  have hle := h.le (m : Int) (by omega) (by omega)
  rw [← rd_seg xs (m : Int) (by simpa using hm)] at hle
  rw [hq]
  unfold atF
  conv => lhs; rw [hsp]
  rw [List.foldl_append, List.foldl_cons, if_pos (by simpa using hle)]
  refine foldl_none t _ _ fun x hx => ?_
  obtain ⟨i, hi', rfl⟩ := List.getElem_of_mem hx
  have hlen : m + 1 + i < xs.length := by simp at hi'; omega
  have := h.gt ((m + 1 + i : Nat) : Int) (by omega) (by omega)
  rw [← rd_seg xs ((m + 1 + i : Nat) : Int) (by omega)] at this
  simp only [List.getElem_drop]
  exact this
set_option maxHeartbeats 1000000 in
set_option maxRecDepth 100000 in
theorem at_calls (A : Option Addr) (c : Nat) (xs : List Seg) (t : Int) (w : World) (hr : Kd.C kSeg w A xs.length xs) (hc : xs.length ≤ c) (hn : xs.length ≤ 9223372036854775807) (hn2 : xs.length ≤ 4611686018427387903) :
    Calls Try.prog 17 #[.slice A xs.length c, .int .i64 t] w fun e w' => e = .returned (vecV (atF xs t)) ∧ Below w.heap.size w w' := by
  have hu28 := Try.underlying28
  have hu30 := Try.underlying30
  have HR := Aside0.mk hr
  clear hr
  by_cases hup : Up xs 0
  · have hub := upB_true hup
    have HUP := Aside0.mk hup
    clear hup
    go_enter Try.func17, Try.ntmps17
    go_wp2_with fail
    refine wp_scope_jumps 0 (fun a' w' => Below w.heap.size w w' ∧ w'.heap[w.heap.size]? = some (.cells #[.int .i64 0, .int .i64 0] 28 (0, 0)) ∧ ∃ (lo hi : Int) (u7 u8 u9 u10 u11 u12 u13 u14 u15 u16 u17 u18 u19 u20 u21 u22 u23 u24 u25 u26 u27 u28 u29 u30 u31 u32 u33 u34 u35 u36 u37 u38 u39 u40 u41 : Value), a' = { tmps := #[.slice A xs.length c, .int .i64 t, undef, undef, .pointer (some ⟨w.heap.size, 0, none⟩), .int .i64 lo, .int .i64 hi, u7, u8, u9, u10, u11, u12, u13, u14, u15, u16, u17, u18, u19, u20, u21, u22, u23, u24, u25, u26, u27, u28, u29, u30, u31, u32, u33, u34, u35, u36, u37, u38, u39, u40, u41], defers := [] } ∧ BS xs t lo hi) (fun a' _ => (intOf (a'.tmps.getD 6 undef) - intOf (a'.tmps.getD 5 undef)).toNat) rfl ?_ ?_
    · go_wp2_with fail
      have hq := rises_calls A c xs (w.alloc (.cells #[.int .i64 0, .int .i64 0] 28)) (Kd.C_below HR.out (below_alloc (Below.refl _ _) _)) hn
      rw [hub] at hq
      refine hq.mono ?_
      rintro e w1 ⟨rfl, hb⟩
      clear hq hub
      go_wp2_with fail
      have hBW := below_step (below_alloc (Below.refl _ _) (.cells #[.int .i64 0, .int .i64 0] 28)) hb
      have hbk := blk_below (blk_new w (.cells #[.int .i64 0, .int .i64 0] 28)) hb
      have hcr := Kd.C_below HR.out hBW
      have hbs := BS.start xs t
      have BW := Aside0.mk hBW
      have BK := Aside0.mk hbk
      have hce0 : w1.cell? ⟨w.heap.size, 0, none⟩ = some (.int .i64 0) := (blk_cell hbk 0).trans rfl
      have hce1 : w1.cell? ⟨w.heap.size, 1, none⟩ = some (.int .i64 0) := (blk_cell hbk 1).trans rfl
      have hfr0 := blk_frozen hbk 0
      have hfr1 := blk_frozen hbk 1
      clear hBW hbk hb
      obtain ⟨n, hnn⟩ : ∃ n : Int, n = xs.length := ⟨_, rfl⟩
      rw [← hnn] at hbs ⊢
      have hne : n ≤ xs.length := by omega
      have hn0 : 0 ≤ n := by omega
      have hn3 : n ≤ 4611686018427387903 := by omega
      clear hnn
      go_step3
      by_cases hlt : (0 : Int) < n
      · obtain ⟨ad, e, hx0, hx1, hx2⟩ := at_T30 hcr (n / 2) (by have := hbs.l0; omega) (by have := hbs.hn; omega)
        cases e
        clear hcr
        have hl0 := hbs.l0
        have hhn := hbs.hn
        have hlh := hbs.lh
        have HBS := Aside0.mk hbs
        clear hbs
        by_cases hle : (rd_T30 xs (n / 2)).f0 ≤ t
        · have hd : decide ((rd_T30 xs (n / 2)).f0 ≤ t) = true := decide_eq_true hle
          go_wp2
          go_step3
          exact ⟨rfl, BW.out, BK.out, _, _, _, _, _, _, _, _, _, _, _, _, _, _, _, _, _, _, _, _, _, _, _, _, _, _, _, _, _, _, _, _, _, _, _, _, _, rfl, by have := HBS.out.right HUP.out hlt (by simpa using hle); simpa using this⟩
        · have hd : decide ((rd_T30 xs (n / 2)).f0 ≤ t) = false := decide_eq_false hle
          go_wp2
          go_step3
          exact ⟨rfl, BW.out, BK.out, _, _, _, _, _, _, _, _, _, _, _, _, _, _, _, _, _, _, _, _, _, _, _, _, _, _, _, _, _, _, _, _, _, _, _, _, _, rfl, by have := HBS.out.left HUP.out hlt (by simp; omega); simpa using this⟩
      · have hl0 := hbs.l0
        have hhn := hbs.hn
        have hlh := hbs.lh
        have HBS := Aside0.mk hbs
        clear hbs
        have hfin : atF xs t = z28 := HBS.out.zero (by omega) rfl
        have HF := Aside0.mk hfin
        clear hfin
        go_wp2
        try simp only [Exit.jump]
        refine bodyPost_ret (v := .agg #[.int .i64 0, .int .i64 0]) (by simp [results, Try.results17, go_sem, hce0, hce1]) rfl ⟨?_, ?_⟩
        · rw [HF.out]; rfl
        · repeat (first | exact BW.out | refine below_set ?_ (Nat.le_refl _))
    · rintro a' w1 ⟨hBW, hbk, lo, hi, u7, u8, u9, u10, u11, u12, u13, u14, u15, u16, u17, u18, u19, u20, u21, u22, u23, u24, u25, u26, u27, u28, u29, u30, u31, u32, u33, u34, u35, u36, u37, u38, u39, u40, u41, rfl, hbs⟩
      have hcr := Kd.C_below HR.out hBW
      have BW := Aside0.mk hBW
      have BK := Aside0.mk hbk
      have hce0 : w1.cell? ⟨w.heap.size, 0, none⟩ = some (.int .i64 0) := (blk_cell hbk 0).trans rfl
      have hce1 : w1.cell? ⟨w.heap.size, 1, none⟩ = some (.int .i64 0) := (blk_cell hbk 1).trans rfl
      have hfr0 := blk_frozen hbk 0
      have hfr1 := blk_frozen hbk 1
      clear hBW hbk
      by_cases hlt : lo < hi
      · obtain ⟨ad, e, hx0, hx1, hx2⟩ := at_T30 hcr ((lo + hi) / 2) (by have := hbs.l0; omega) (by have := hbs.hn; omega)
        cases e
        clear hcr
        have hl0 := hbs.l0
        have hhn := hbs.hn
        have hlh := hbs.lh
        have hb4 : hi ≤ 4611686018427387903 := by omega
        have hb5 : lo ≤ 4611686018427387903 := by omega
        have hb6 : 0 ≤ hi := by omega
        have HBS := Aside0.mk hbs
        clear hbs
        by_cases hle : (rd_T30 xs ((lo + hi) / 2)).f0 ≤ t
        · have hd : decide ((rd_T30 xs ((lo + hi) / 2)).f0 ≤ t) = true := decide_eq_true hle
          go_wp2
          go_step3
          exact ⟨rfl, ⟨BW.out, BK.out, _, _, _, _, _, _, _, _, _, _, _, _, _, _, _, _, _, _, _, _, _, _, _, _, _, _, _, _, _, _, _, _, _, _, _, _, _, rfl, HBS.out.right HUP.out hlt hle⟩, by simp [intOf]; omega⟩
        · have hd : decide ((rd_T30 xs ((lo + hi) / 2)).f0 ≤ t) = false := decide_eq_false hle
          go_wp2
          go_step3
          exact ⟨rfl, ⟨BW.out, BK.out, _, _, _, _, _, _, _, _, _, _, _, _, _, _, _, _, _, _, _, _, _, _, _, _, _, _, _, _, _, _, _, _, _, _, _, _, _, rfl, HBS.out.left HUP.out hlt (by omega)⟩, by simp [intOf]; omega⟩
      · have hl0 := hbs.l0
        have hhn := hbs.hn
        have hlh := hbs.lh
        have HBS := Aside0.mk hbs
        clear hbs
        by_cases hz : lo = 0
        · have hfin : atF xs t = z28 := HBS.out.zero (by omega) hz
          have HF := Aside0.mk hfin
          have hd : ((lo : Int) == 0) = true := by simp [hz]
          have hge : hi ≤ lo := by omega
          clear hfin hz hlt
          go_wp2
          try simp only [Exit.jump]
          refine bodyPost_ret (v := .agg #[.int .i64 0, .int .i64 0]) (by simp [results, Try.results17, go_sem, hce0, hce1]) rfl ⟨?_, ?_⟩
          · rw [HF.out]; rfl
          · repeat (first | exact BW.out | refine below_set ?_ (Nat.le_refl _))
        · have hd : ((lo : Int) == 0) = false := by simp [hz]
          have hfin : atF xs t = (rd_T30 xs (lo - 1)).f1 := HBS.out.last (by omega) (by omega)
          obtain ⟨m, hm⟩ : ∃ m, m = lo - 1 := ⟨_, rfl⟩
          rw [← hm] at hfin
          have HF := Aside0.mk hfin
          clear hfin
          obtain rfl : lo = m + 1 := by omega
          clear hm
          have hm0 : 0 ≤ m := by omega
          have hm1 : m < xs.length := by omega
          obtain ⟨ad, e, hx0, hx1, hx2⟩ := at_T30 hcr m hm0 hm1
          cases e
          have hge : hi ≤ m + 1 := by omega
          clear hcr hz hlt
          go_wp2
          try simp only [Exit.jump]
          refine bodyPost_ret (v := .agg #[.int .i64 (rd_T30 xs m).f1.f0, .int .i64 (rd_T30 xs m).f1.f1]) (by simp [results, Try.results17, go_sem, hce0, hce1]) rfl ⟨?_, ?_⟩
          · rw [HF.out]; rfl
          · repeat (first | exact BW.out | refine below_set ?_ (Nat.le_refl _))
  · have hub := upB_false hup
    clear hup
    go_enter Try.func17, Try.ntmps17
    go_wp2_with fail
    go_step3
    go_wp2_with fail
    have hq := rises_calls A c xs (w.alloc (.cells #[.int .i64 0, .int .i64 0] 28)) (Kd.C_below HR.out (below_alloc (Below.refl _ _) _)) hn
    rw [hub] at hq
    refine hq.mono ?_
    rintro e w1 ⟨rfl, hb⟩
    clear hq hub
    have hBW := below_step (below_alloc (Below.refl _ _) (.cells #[.int .i64 0, .int .i64 0] 28)) hb
    have hbk := blk_below (blk_new w (.cells #[.int .i64 0, .int .i64 0] 28)) hb
    go_wp2_with fail
    refine (slow_calls A c xs t w1 (Kd.C_below HR.out hBW) hc hn).mono ?_
    rintro e w2 ⟨rfl, hb2⟩
    have hbk2 := blk_below hbk hb2
    have BW := Aside0.mk (below_step hBW hb2)
    have hce0 : w2.cell? ⟨w.heap.size, 0, none⟩ = some (.int .i64 0) := (blk_cell hbk2 0).trans rfl
    have hce1 : w2.cell? ⟨w.heap.size, 1, none⟩ = some (.int .i64 0) := (blk_cell hbk2 1).trans rfl
    have hfr0 := blk_frozen hbk2 0
    have hfr1 := blk_frozen hbk2 1
    clear hBW hbk hbk2 hb hb2
    unfold vecV
    generalize hgr : atF xs t = r
    have HG := Aside0.mk hgr
    clear hgr
    go_wp2
    try rw [Exit.noGoto_ret]
    refine bodyPost_ret (v := .agg #[.int .i64 r.f0, .int .i64 r.f1]) (by simp [results, Try.results17, go_sem, hce0, hce1]) rfl ⟨by rw [HG.out]; rfl, ?_⟩
    repeat (first | exact BW.out | refine below_set ?_ (Nat.le_refl _))
end Go.Proofs.Ytddbnncimggogaa.Lv
