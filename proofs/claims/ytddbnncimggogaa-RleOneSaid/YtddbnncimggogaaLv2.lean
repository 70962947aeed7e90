/- rle.May: whether a row of runs is canonical. -/
import Derived.Test.YtddbnncimggogaaLv1
import Derived.Test.YtddbnncimggogaaPb1
import Derived.Test.YtddbnncimggogaaPb2
namespace Go.Proofs.Ytddbnncimggogaa.Lv
open Go.RowKit Go.Proofs.YtddbnncimggogaaW.PrintWords Go.Proofs.YtddbnncimggogaaW.PrintLast Go.Proofs.YtddbnncimggogaaW.PrintMore Go.Proofs.Ytddbnncimggogaa.Pb
attribute [local go_sem high] eqA28
def oddS (x : Seg) (lm lc ah : Int) : Bool := !inS x || ((x.f1.f0 == lm && x.f1.f1 == lc) || decide (x.f0 ≤ ah))
set_option maxHeartbeats 400000 in
set_option maxRecDepth 100000 in
theorem may1_calls (x : Seg) (lm lc ah : Int) (b1 b2 B : Nat) (w0 w : World) (hB : Below B w0 w) (h1 : B ≤ b1) (h2 : B ≤ b2) (hne : b1 ≠ b2) (hBw : B ≤ w.heap.size)
    (c1 : w.heap[b1]? = some (.cells #[.int .i64 lm, .int .i64 lc] 28 (0, 0))) (c2 : w.heap[b2]? = some (.cells #[.int .i64 ah] 2 (0, 0))) :
    Calls Try.prog 61 #[segV x, .pointer (some ⟨b1, 0, none⟩), .pointer (some ⟨b2, 0, none⟩)] w fun e w' => e = .returned (.bool (oddS x lm lc ah)) ∧ Below B w0 w' ∧
      w'.heap[b1]? = some (.cells #[.int .i64 x.f1.f0, .int .i64 x.f1.f1] 28 (0, 0)) ∧ w'.heap[b2]? = some (.cells #[.int .i64 x.f0] 2 (0, 0)) := by
  have hu30 := Try.underlying30
  have hu28 := Try.underlying28
  have hin := fun W => in_calls x W
  unfold segV at *
  have l1 : b1 < w.heap.size := (Array.getElem?_eq_some_iff.1 c1).1
  have l2 : b2 < w.heap.size := (Array.getElem?_eq_some_iff.1 c2).1
  go_enter Try.func61, Try.ntmps61
  go_wp2_with fail
  refine (hin _).mono ?_
  rintro e w1 ⟨rfl, hb⟩
  clear hin
  have d1 := blk_below (blk_alloc c1 _) hb
  have d2 := blk_below (blk_alloc c2 _) hb
  have d3 := blk_below (blk_new w _) hb
  have hBB : Below B w0 w1 := ((hB.alloc hBw _).trans (hb.mono (by simp; omega)))
  have n1 : b1 ≠ w.heap.size := by omega
  have n2 : b2 ≠ w.heap.size := by omega
  have D1 := Aside0.mk d1
  have D2 := Aside0.mk d2
  have D3 := Aside0.mk d3
  have HBB := Aside0.mk hBB
  have NE := Aside0.mk (And.intro hne (And.intro n1 n2))
  have e10 : w1.cell? ⟨b1, 0, none⟩ = some (.int .i64 lm) := (blk_cell d1 0).trans rfl
  have e11 : w1.cell? ⟨b1, 1, none⟩ = some (.int .i64 lc) := (blk_cell d1 1).trans rfl
  have e20 : w1.cell? ⟨b2, 0, none⟩ = some (.int .i64 ah) := (blk_cell d2 0).trans rfl
  have e30 : w1.cell? ⟨w.heap.size, 0, none⟩ = some (.int .i64 x.f0) := (blk_cell d3 0).trans rfl
  have e31 : w1.cell? ⟨w.heap.size, 1, none⟩ = some (.int .i64 x.f1.f0) := (blk_cell d3 1).trans rfl
  have e32 : w1.cell? ⟨w.heap.size, 2, none⟩ = some (.int .i64 x.f1.f1) := (blk_cell d3 2).trans rfl
  have z1 := blk_frozen d1 0
  have z2 := blk_frozen d1 1
  have z3 := blk_frozen d2 0
  have m1 : ¬ b1 = b2 := hne
  have m2 : ¬ b2 = b1 := fun h => hne h.symm
  have m3 : ¬ b1 = w.heap.size := n1
  have m4 : ¬ b2 = w.heap.size := n2
  clear d1 d2 d3 hBB hne n1 n2 hb c1 c2 hB l1 l2
  cases hi : inS x
  all_goals
    go_wp2_with fail
    all_goals go_region
    all_goals go_wp2
    all_goals go_ret
    all_goals
      refine ⟨?_, ?_, ?_, ?_⟩
      · first
          | (simp [oddS, hi]; done)
          | (simp [oddS, hi, (by omega : x.f1.f0 = lm), (by omega : x.f1.f1 = lc)]; done)
      · repeat (first | exact HBB.out | apply below_drew | refine Below.setCell ?_ h1 _ | refine Below.setCell ?_ h2 _)
      · exact blk_drew (blk_far (blk_put (blk_put D1.out 0 _ rfl) 1 _ rfl) NE.out.1 _)
      · exact blk_drew (blk_put (blk_far (blk_far D2.out (fun h => NE.out.1 h.symm) _) (fun h => NE.out.1 h.symm) _) 0 _ rfl)

/-- Is a row canonical: whatever ran ahead of it. -/
def mayB : List Seg → Int → Int → Int → Bool
  | [], _, _, _ => true
  | x :: l, lm, lc, ah => !oddS x lm lc ah && mayB l x.f1.f0 x.f1.f1 x.f0
def mayF (l : List Seg) : Bool := mayB l 0 0 (-1125899906842625)
def lastM (l : List Seg) (i : Nat) : Int := match i with | 0 => 0 | j + 1 => (l.getD j z30).f1.f0
def lastC (l : List Seg) (i : Nat) : Int := match i with | 0 => 0 | j + 1 => (l.getD j z30).f1.f1
def lastT (l : List Seg) (i : Nat) : Int := match i with | 0 => -1125899906842625 | j + 1 => (l.getD j z30).f0
theorem mayB_drop (l : List Seg) (i : Nat) (h : i < l.length) : mayB (l.drop i) (lastM l i) (lastC l i) (lastT l i) = (!oddS l[i] (lastM l i) (lastC l i) (lastT l i) && mayB (l.drop (i+1)) (lastM l (i+1)) (lastC l (i+1)) (lastT l (i+1))) := by
  rw [List.drop_eq_getElem_cons h]
  simp [mayB, lastM, lastC, lastT, List.getD_eq_getElem?_getD, List.getElem?_eq_getElem h]
set_option maxHeartbeats 400000 in
set_option maxRecDepth 100000 in
theorem may_calls (A : Option Addr) (c : Nat) (xs : List Seg) (w : World) (hr : Kd.C kSeg w A xs.length xs) (hn : xs.length ≤ 9223372036854775807) :
    Calls Try.prog 23 #[.slice A xs.length c] w fun e w' => e = .returned (.bool (mayF xs)) ∧ Below w.heap.size w w' := by
  have hu28 := Try.underlying28
  have H := containsFunc_Seg 61 #[.pointer (some ⟨w.heap.size, 0, none⟩), .pointer (some ⟨w.heap.size + 1, 0, none⟩)] A c xs
    (fun i W => Below w.heap.size w W ∧ W.heap[w.heap.size]? = some (.cells #[.int .i64 (lastM xs i), .int .i64 (lastC xs i)] 28 (0, 0)) ∧ W.heap[w.heap.size + 1]? = some (.cells #[.int .i64 (lastT xs i)] 2 (0, 0)) ∧ mayF xs = mayB (xs.drop i) (lastM xs i) (lastC xs i) (lastT xs i))
    (fun _ W => Below w.heap.size w W ∧ mayF xs = false)
  have H' := fun W h0 => H W (fun i W h => Kd.C_below hr h.1) (fun i hi W h => ((may1_calls xs[i] _ _ _ _ _ w.heap.size w W h.1 (Nat.le_refl _) (by omega) (by omega) h.1.size h.2.1 h.2.2.1).mono (by
      rintro e W' ⟨rfl, hb, q1, q2⟩
      have hm := h.2.2.2
      rw [mayB_drop xs i hi] at hm
      cases ho : oddS xs[i] (lastM xs i) (lastC xs i) (lastT xs i)
      · refine .inl ⟨rfl, hb, ?_, ?_, ?_⟩
        · simpa [lastM, lastC, List.getD_eq_getElem?_getD, List.getElem?_eq_getElem hi] using q1
        · simpa [lastT, List.getD_eq_getElem?_getD, List.getElem?_eq_getElem hi] using q2
        · simpa [ho] using hm
      · refine .inr ⟨rfl, hb, ?_⟩
        simpa [ho] using hm))) (fun _ _ => rfl) h0 hn
  clear H
  go_enter Try.func23, Try.ntmps23
  go_wp2_with fail
  refine (H' _ ?_).mono ?_
  · refine ⟨?_, ?_, ?_, rfl⟩
    · repeat (first | exact Below.refl _ _ | apply below_alloc | refine below_set ?_ (by omega))
    · exact blk_alloc (blk_new w _) _
    · have hq := blk_new (w.alloc (.cells #[.int .i64 0, .int .i64 0] 28)) (.cells #[.int .i64 (-1125899906842625)] 2)
      have hs : (w.alloc (.cells #[.int .i64 0, .int .i64 0] 28)).heap.size = w.heap.size + 1 := by simp
      rw [hs] at hq
      exact hq
  · rintro e w1 (⟨rfl, hb, _, _, hm⟩ | ⟨i, rfl, hb, hm⟩)
    all_goals
      go_wp2
      go_ret
      exact ⟨by simp [hm, mayB], hb⟩
end Go.Proofs.Ytddbnncimggogaa.Lv
