/- liverylaw02.head. -/
import Derived.Test.YtddbnncimggogaaLv10
namespace Go.Proofs.Ytddbnncimggogaa.Lv
open Go.RowKit Go.Proofs.YtddbnncimggogaaW.PrintWords Go.Proofs.YtddbnncimggogaaW.PrintLast Go.Proofs.YtddbnncimggogaaW.PrintMore Go.Proofs.Ytddbnncimggogaa.Pb Go.Proofs.Ytddbnncimggogaa.SP Go.Proofs.Ytddbnncimggogaa.StSeg
attribute [local go_sem high] eqA28
def cellsS (x : Seg) : List Value := [.int .i64 x.f0, .int .i64 x.f1.f0, .int .i64 x.f1.f1]
theorem flat_get : ∀ (xs : List Seg) (i j : Nat) (_ : i < xs.length) (_ : j < 3), (xs.flatMap cellsS)[i * 3 + j]? = (cellsS (xs.getD i z30))[j]?
  | [], i, j, h, _ => by simp at h
  | x :: l, 0, j, _, hj => by
    rw [List.flatMap_cons, Nat.zero_mul, Nat.zero_add, List.getElem?_append_left (by simp [cellsS]; omega)]
    rfl
  | x :: l, i + 1, j, h, hj => by
    rw [List.flatMap_cons, List.getElem?_append_right (by simp [cellsS]; omega)]
    have := flat_get l i j (by simp at h; omega) hj
    rw [show (i + 1) * 3 + j - (cellsS x).length = i * 3 + j by simp [cellsS]; omega, this]
    simp
theorem flat_len (xs : List Seg) : (xs.flatMap cellsS).length = xs.length * 3 := by
  induction xs with
  | nil => rfl
  | cons x l ih => rw [List.flatMap_cons, List.length_append, ih]; simp [cellsS]; omega
theorem row_flat {W : World} {g : Nat} (xs : List Seg) (cs : Array Value) (hb : W.heap[g]? = some (.cells cs 30 (0, 0))) (h : cs.toList = xs.flatMap cellsS) : Row g (xs.length * 3) xs W := by
  have hs : cs.size = xs.length * 3 := by rw [← Array.length_toList, h, flat_len]
  refine ⟨cs, hb, hs, Nat.le_refl _, fun i hi => ?_⟩
  have e : ∀ j, cs[j]? = (xs.flatMap cellsS)[j]? := fun j => by rw [← Array.getElem?_toList, h]
  refine ⟨?_, ?_, ?_⟩
  · have := flat_get xs i 0 hi (by omega); rw [e]; exact this
  · have := flat_get xs i 1 hi (by omega); rw [e]; exact this
  · have := flat_get xs i 2 hi (by omega); rw [e]; exact this
theorem C_lit (W : World) (xs : List Seg) (cs : Array Value) (h : cs.toList = xs.flatMap cellsS) (hn : xs.length ≤ 1000000000) : Kd.C kSeg (W.alloc (.cells cs 30)) (some ⟨W.heap.size, 0, none⟩) xs.length xs :=
  C_of_row (row_flat xs cs (blk_new W _) h) (by omega)
def hd0 : List Seg := [⟨5, ⟨1, 1⟩⟩, ⟨2, ⟨3, 3⟩⟩, ⟨5, ⟨2, 2⟩⟩, ⟨9, ⟨2, 2⟩⟩]
def hd1 : List Seg := [⟨2, ⟨3, 3⟩⟩, ⟨5, ⟨2, 2⟩⟩]
def hd2 : List Seg := [⟨1125899906842625, ⟨0, 0⟩⟩]
theorem hd_fold : foldF hd0 = hd1 := by rfl
theorem hd_box : foldF (boxL 3 7 1 0) = [⟨3, ⟨1, 0⟩⟩, ⟨7, ⟨0, 0⟩⟩] := by rfl
theorem hd_none : foldF (boxL 3 3 1 0) = [] := by rfl
theorem of_ok {w : World} {xs ys : List Seg} {e : Ending} {w' : World} (h : OfPost w xs e w') (hx : xs.all inS = true) (hf : foldF xs = ys) : ∃ A c, e = .returned (.tuple #[.slice A ys.length c, .int .i64 0]) ∧ ys.length ≤ c ∧ Kd.C kSeg w' A ys.length ys ∧ Below w.heap.size w w' := by
  subst hf
  rcases h with ⟨_, v, rfl, hv, hb⟩ | ⟨h, _⟩
  · obtain ⟨A, c, rfl, hc, hC⟩ := Kd.R_reads hv
    exact ⟨A, c, rfl, hc, hC, hb⟩
  · rw [hx] at h; cases h
theorem of_bad {w : World} {xs : List Seg} {e : Ending} {w' : World} (h : OfPost w xs e w') (hx : xs.all inS = false) : e = .returned (.tuple #[.slice none 0 0, .int .i64 10]) ∧ Below w.heap.size w w' := by
  rcases h with ⟨h, _⟩ | ⟨_, h⟩
  · rw [hx] at h; cases h
  · exact h
theorem box_bad {w : World} {a b m c : Int} {e : Ending} {w' : World} (h : BoxPost w a b m c e w') (hab : a > b) : e = .returned (.tuple #[.slice none 0 0, .int .i64 2]) ∧ Below w.heap.size w w' := by
  rcases h with ⟨_, h⟩ | ⟨h, _⟩
  · exact h
  · omega
theorem ends_calls' (A : Option Addr) (c : Nat) (l : List Seg) (w : World) (r1 r2 : Int) (r3 : Bool) (hr : endsF l = (r1, r2, r3)) (h : Kd.C kSeg w A l.length l) (hc : l.length ≤ c) (hn : l.length ≤ 1000000000) :
    Calls Try.prog 22 #[.slice A l.length c] w fun e w' => e = .returned (.tuple #[.int .i64 r1, .int .i64 r2, .bool r3]) ∧ Below w.heap.size w w' := by
  have := ends_calls A c l w h hc hn
  rw [hr] at this
  exact this
theorem at_calls' (A : Option Addr) (c : Nat) (xs : List Seg) (t : Int) (w : World) (a b : Int) (hv : atF xs t = ⟨a, b⟩) (hr : Kd.C kSeg w A xs.length xs) (hc : xs.length ≤ c) (hn : xs.length ≤ 1000000000) :
    Calls Try.prog 17 #[.slice A xs.length c, .int .i64 t] w fun e w' => e = .returned (.agg #[.int .i64 a, .int .i64 b]) ∧ Below w.heap.size w w' := by
  have := at_calls A c xs t w hr hc (by omega) (by omega)
  rw [hv] at this
  exact this
def bx1 : List Seg := [⟨3, ⟨1, 0⟩⟩, ⟨7, ⟨0, 0⟩⟩]
set_option maxHeartbeats 1000000 in
set_option maxRecDepth 100000 in
theorem head_calls (w : World) : Calls Try.prog 15 #[] w fun e w' => e = .returned (.bool true) ∧ Below w.heap.size w w' := by
  have hu30 := Try.underlying30
  have hu28 := Try.underlying28
  have HB := Aside0.mk (Below.refl w.heap.size w)
  go_enter Try.func15, Try.ntmps15
  go_wp2_with fail
  refine (seg02_calls _ _ _ _).mono ?_
  rintro e w0 ⟨rfl, hb⟩
  have HB' := Aside0.mk (below_step HB.out hb)
  clear HB
  have HB := HB'
  clear HB' hb
  go_wp2_with fail
  refine (seg02_calls _ _ _ _).mono ?_
  rintro e w1 ⟨rfl, hb⟩
  have HB' := Aside0.mk (below_step HB.out hb)
  clear HB
  have HB := HB'
  clear HB' hb
  go_wp2_with fail
  refine (seg02_calls _ _ _ _).mono ?_
  rintro e w2 ⟨rfl, hb⟩
  have HB' := Aside0.mk (below_step HB.out hb)
  clear HB
  have HB := HB'
  clear HB' hb
  go_wp2_with fail
  refine (seg02_calls _ _ _ _).mono ?_
  rintro e w3 ⟨rfl, hb⟩
  have HB' := Aside0.mk (below_step HB.out hb)
  clear HB
  have HB := HB'
  clear HB' hb
  go_wp2_with fail
  have hal := below_alloc (Below.refl w3.heap.size w3) (.cells (hd0.flatMap cellsS).toArray 30)
  have HC_ := C_lit w3 hd0 (hd0.flatMap cellsS).toArray rfl (by decide)
  refine (show Calls Try.prog 16 #[.slice (some ⟨w3.heap.size, 0, none⟩) 4 4] (w3.alloc (.cells (hd0.flatMap cellsS).toArray 30)) (OfPost _ hd0) from of_calls _ _ hd0 _ HC_ (by decide)).mono ?_
  rintro e w4 h
  obtain ⟨A1, c1, rfl, hc1, hC1, hb0⟩ := of_ok h rfl hd_fold
  have hb := below_step hal hb0
  have HF := Aside0.mk (And.intro hc1 hC1)
  clear h hc1 hC1 hb0 hal HC_
  have HB' := Aside0.mk (below_step HB.out hb)
  clear HB
  have HB := HB'
  clear HB' hb
  go_wp2_with fail
  refine (ends_calls' A1 c1 hd1 _ 2 5 false rfl HF.out.2 HF.out.1 (by decide)).mono ?_
  rintro e w5 ⟨rfl, hb⟩
  have HB' := Aside0.mk (below_step HB.out hb)
  have HF' := Aside0.mk (And.intro HF.out.1 (Kd.C_below HF.out.2 hb)); clear HF; have HF := HF'; clear HF'
  clear HB
  have HB := HB'
  clear HB' hb
  go_wp2_with fail
  refine (box_calls 3 7 1 0 _).mono ?_
  rintro e w6 h
  rcases h with ⟨h, _⟩ | ⟨_, h⟩
  · exact absurd h (by decide)
  obtain ⟨A2, c2, rfl, hc2, hC2, hb⟩ := of_ok (ys := bx1) h rfl hd_box
  have HG := Aside0.mk (And.intro hc2 hC2)
  clear h hc2 hC2
  have HB' := Aside0.mk (below_step HB.out hb)
  have HF' := Aside0.mk (And.intro HF.out.1 (Kd.C_below HF.out.2 hb)); clear HF; have HF := HF'; clear HF'
  clear HB
  have HB := HB'
  clear HB' hb
  go_wp2_with fail
  refine (ends_calls' A2 c2 bx1 _ 3 7 true rfl HG.out.2 HG.out.1 (by decide)).mono ?_
  rintro e w7 ⟨rfl, hb⟩
  have HB' := Aside0.mk (below_step HB.out hb)
  have HF' := Aside0.mk (And.intro HF.out.1 (Kd.C_below HF.out.2 hb)); clear HF; have HF := HF'; clear HF'
  have HG' := Aside0.mk (And.intro HG.out.1 (Kd.C_below HG.out.2 hb)); clear HG; have HG := HG'; clear HG'
  clear HB
  have HB := HB'
  clear HB' hb
  go_wp2_with fail
  refine (ends_calls' none 0 [] _ 0 0 true rfl ⟨rfl, by decide, fun h => absurd h (by decide)⟩ (by decide) (by decide)).mono ?_
  rintro e w8 ⟨rfl, hb⟩
  have HB' := Aside0.mk (below_step HB.out hb)
  have HF' := Aside0.mk (And.intro HF.out.1 (Kd.C_below HF.out.2 hb)); clear HF; have HF := HF'; clear HF'
  have HG' := Aside0.mk (And.intro HG.out.1 (Kd.C_below HG.out.2 hb)); clear HG; have HG := HG'; clear HG'
  clear HB
  have HB := HB'
  clear HB' hb
  go_wp2_with fail
  refine (box_calls 3 3 1 0 _).mono ?_
  rintro e w9 h
  rcases h with ⟨h, _⟩ | ⟨_, h⟩
  · exact absurd h (by decide)
  obtain ⟨A3, c3, rfl, hc3, hC3, hb⟩ := of_ok (ys := []) h rfl hd_none
  clear h hc3 hC3
  have HB' := Aside0.mk (below_step HB.out hb)
  have HF' := Aside0.mk (And.intro HF.out.1 (Kd.C_below HF.out.2 hb)); clear HF; have HF := HF'; clear HF'
  have HG' := Aside0.mk (And.intro HG.out.1 (Kd.C_below HG.out.2 hb)); clear HG; have HG := HG'; clear HG'
  clear HB
  have HB := HB'
  clear HB' hb
  go_wp2_with fail
  refine (box_calls 4 3 1 0 _).mono ?_
  rintro e w10 h
  obtain ⟨rfl, hb⟩ := box_bad h (by decide)
  clear h
  have HB' := Aside0.mk (below_step HB.out hb)
  have HF' := Aside0.mk (And.intro HF.out.1 (Kd.C_below HF.out.2 hb)); clear HF; have HF := HF'; clear HF'
  have HG' := Aside0.mk (And.intro HG.out.1 (Kd.C_below HG.out.2 hb)); clear HG; have HG := HG'; clear HG'
  clear HB
  have HB := HB'
  clear HB' hb
  go_wp2_with fail
  refine (seg02_calls _ _ _ _).mono ?_
  rintro e w11 ⟨rfl, hb⟩
  have HB' := Aside0.mk (below_step HB.out hb)
  have HF' := Aside0.mk (And.intro HF.out.1 (Kd.C_below HF.out.2 hb)); clear HF; have HF := HF'; clear HF'
  have HG' := Aside0.mk (And.intro HG.out.1 (Kd.C_below HG.out.2 hb)); clear HG; have HG := HG'; clear HG'
  clear HB
  have HB := HB'
  clear HB' hb
  go_wp2_with fail
  have hal := below_alloc (Below.refl w11.heap.size w11) (.cells (hd2.flatMap cellsS).toArray 30)
  have HC_ := C_lit w11 hd2 (hd2.flatMap cellsS).toArray rfl (by decide)
  refine (show Calls Try.prog 16 #[.slice (some ⟨w11.heap.size, 0, none⟩) 1 1] (w11.alloc (.cells (hd2.flatMap cellsS).toArray 30)) (OfPost _ hd2) from of_calls _ _ hd2 _ HC_ (by decide)).mono ?_
  rintro e w12 h
  obtain ⟨rfl, hb0⟩ := of_bad h rfl
  have hb := below_step hal hb0
  clear h hb0 hal HC_
  have HB' := Aside0.mk (below_step HB.out hb)
  have HF' := Aside0.mk (And.intro HF.out.1 (Kd.C_below HF.out.2 hb)); clear HF; have HF := HF'; clear HF'
  have HG' := Aside0.mk (And.intro HG.out.1 (Kd.C_below HG.out.2 hb)); clear HG; have HG := HG'; clear HG'
  clear HB
  have HB := HB'
  clear HB' hb
  go_wp2_with fail
  refine (seg02_calls _ _ _ _).mono ?_
  rintro e w13 ⟨rfl, hb⟩
  have HB' := Aside0.mk (below_step HB.out hb)
  have HF' := Aside0.mk (And.intro HF.out.1 (Kd.C_below HF.out.2 hb)); clear HF; have HF := HF'; clear HF'
  have HG' := Aside0.mk (And.intro HG.out.1 (Kd.C_below HG.out.2 hb)); clear HG; have HG := HG'; clear HG'
  clear HB
  have HB := HB'
  clear HB' hb
  go_wp2_with fail
  refine (seg02_calls _ _ _ _).mono ?_
  rintro e w14 ⟨rfl, hb⟩
  have HB' := Aside0.mk (below_step HB.out hb)
  have HF' := Aside0.mk (And.intro HF.out.1 (Kd.C_below HF.out.2 hb)); clear HF; have HF := HF'; clear HF'
  have HG' := Aside0.mk (And.intro HG.out.1 (Kd.C_below HG.out.2 hb)); clear HG; have HG := HG'; clear HG'
  clear HB
  have HB := HB'
  clear HB' hb
  go_wp2_with fail
  have hal := below_alloc (Below.refl w14.heap.size w14) (.cells (hd1.flatMap cellsS).toArray 30)
  have HC_ := C_lit w14 hd1 (hd1.flatMap cellsS).toArray rfl (by decide)
  refine (show Calls Try.prog 18 #[.slice A1 hd1.length c1, .slice (some ⟨w14.heap.size, 0, none⟩) 2 2] (w14.alloc (.cells (hd1.flatMap cellsS).toArray 30)) _ from same_calls A1 c1 hd1 _ _ hd1 _ (Kd.C_below HF.out.2 hal) HF.out.1 HC_ (by decide) (by decide)).mono ?_
  rintro e w15 ⟨rfl, hb0⟩
  have hsm : sameB hd1 hd1 = true := rfl
  rw [hsm]
  have hb := below_step hal hb0
  clear hb0 hal HC_ hsm
  have HB' := Aside0.mk (below_step HB.out hb)
  have HF' := Aside0.mk (And.intro HF.out.1 (Kd.C_below HF.out.2 hb)); clear HF; have HF := HF'; clear HF'
  have HG' := Aside0.mk (And.intro HG.out.1 (Kd.C_below HG.out.2 hb)); clear HG; have HG := HG'; clear HG'
  clear HB
  have HB := HB'
  clear HB' hb
  go_wp2_with fail
  refine (at_calls' A1 c1 hd1 1 _ 0 0 rfl HF.out.2 HF.out.1 (by decide)).mono ?_
  rintro e w16 ⟨rfl, hb⟩
  have HB' := Aside0.mk (below_step HB.out hb)
  have HF' := Aside0.mk (And.intro HF.out.1 (Kd.C_below HF.out.2 hb)); clear HF; have HF := HF'; clear HF'
  have HG' := Aside0.mk (And.intro HG.out.1 (Kd.C_below HG.out.2 hb)); clear HG; have HG := HG'; clear HG'
  clear HB
  have HB := HB'
  clear HB' hb
  go_wp2_with fail
  refine (at_calls' A1 c1 hd1 4 _ 3 3 rfl HF.out.2 HF.out.1 (by decide)).mono ?_
  rintro e w17 ⟨rfl, hb⟩
  have HB' := Aside0.mk (below_step HB.out hb)
  have HF' := Aside0.mk (And.intro HF.out.1 (Kd.C_below HF.out.2 hb)); clear HF; have HF := HF'; clear HF'
  have HG' := Aside0.mk (And.intro HG.out.1 (Kd.C_below HG.out.2 hb)); clear HG; have HG := HG'; clear HG'
  clear HB
  have HB := HB'
  clear HB' hb
  go_wp2_with fail
  refine (at_calls' A1 c1 hd1 5 _ 2 2 rfl HF.out.2 HF.out.1 (by decide)).mono ?_
  rintro e w18 ⟨rfl, hb⟩
  have HB' := Aside0.mk (below_step HB.out hb)
  have HF' := Aside0.mk (And.intro HF.out.1 (Kd.C_below HF.out.2 hb)); clear HF; have HF := HF'; clear HF'
  have HG' := Aside0.mk (And.intro HG.out.1 (Kd.C_below HG.out.2 hb)); clear HG; have HG := HG'; clear HG'
  clear HB
  have HB := HB'
  clear HB' hb
  go_wp2_with fail
  refine (at_calls' A1 c1 hd1 100 _ 2 2 rfl HF.out.2 HF.out.1 (by decide)).mono ?_
  rintro e w19 ⟨rfl, hb⟩
  have HB' := Aside0.mk (below_step HB.out hb)
  have HF' := Aside0.mk (And.intro HF.out.1 (Kd.C_below HF.out.2 hb)); clear HF; have HF := HF'; clear HF'
  have HG' := Aside0.mk (And.intro HG.out.1 (Kd.C_below HG.out.2 hb)); clear HG; have HG := HG'; clear HG'
  clear HB
  have HB := HB'
  clear HB' hb
  go_wp2_with fail
  refine (same_calls A1 c1 hd1 A2 c2 bx1 _ HF.out.2 HF.out.1 HG.out.2 HG.out.1 (by decide)).mono ?_
  rintro e w20 ⟨rfl, hb⟩
  have hsm : sameB hd1 bx1 = false := rfl
  rw [hsm]
  clear hsm
  have HB' := Aside0.mk (below_step HB.out hb)
  have HF' := Aside0.mk (And.intro HF.out.1 (Kd.C_below HF.out.2 hb)); clear HF; have HF := HF'; clear HF'
  have HG' := Aside0.mk (And.intro HG.out.1 (Kd.C_below HG.out.2 hb)); clear HG; have HG := HG'; clear HG'
  clear HB
  have HB := HB'
  clear HB' hb
  clear HF HG
  go_wp2
  go_ret
  exact ⟨rfl, HB.out⟩
end Go.Proofs.Ytddbnncimggogaa.Lv
