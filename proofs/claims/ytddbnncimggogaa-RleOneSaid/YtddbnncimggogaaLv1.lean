/- rle's runs: whether one may be, how two stand, copies. -/
import Derived.Test.YtddbnncimggogaaLv0
import Derived.Test.YtddbnncimggogaaPb46
namespace Go.Proofs.Ytddbnncimggogaa.Lv
open Go.RowKit Go.Proofs.YtddbnncimggogaaW.PrintWords Go.Proofs.YtddbnncimggogaaW.PrintLast Go.Proofs.YtddbnncimggogaaW.PrintMore Go.Proofs.Ytddbnncimggogaa.Pb
def mayV (a b : Int) : Bool := decide (-1125899906842624 ≤ a ∧ a ≤ 1125899906842624 ∧ -1125899906842624 ≤ b ∧ b ≤ 1125899906842624)
def inS (x : Seg) : Bool := decide (-1125899906842624 ≤ x.f0 ∧ x.f0 ≤ 1125899906842624) && mayV x.f1.f0 x.f1.f1
theorem vecMay_f (a b : Int) : ∃ k, vec_May.f k a b = some (mayV a b) := by
  refine ⟨3, ?_⟩
  unfold vec_May.f vec_fits_int64.f mayV
  simp only [vec_fits_int64.l0, rd, List.length_cons, List.length_nil]
  by_cases h1 : a < -1125899906842624
  · simp [h1] <;> omega
  · by_cases h2 : a > 1125899906842624
    · simp [h1, h2] <;> omega
    · by_cases h3 : b < -1125899906842624
      · simp [h1, h2, h3, wrap64] <;> omega
      · by_cases h4 : b > 1125899906842624
        · simp [h1, h2, h3, h4, wrap64] <;> omega
        · simp [h1, h2, h3, h4, wrap64] <;> omega
theorem vecMay_calls (a b : Int) (w : World) : Calls Try.prog 100 #[.agg #[.int .i64 a, .int .i64 b]] w fun e w' => e = .returned (.bool (mayV a b)) ∧ Below w.heap.size w w' := by
  obtain ⟨k, h⟩ := vecMay_f a b
  exact vec_May.calls k a b _ w h
set_option maxHeartbeats 400000 in
set_option maxRecDepth 100000 in
theorem in_calls (x : Seg) (w : World) : Calls Try.prog 55 #[segV x] w fun e w' => e = .returned (.bool (inS x)) ∧ Below w.heap.size w w' := by
  have hu30 := Try.underlying30
  have hu28 := Try.underlying28
  unfold segV
  by_cases h1 : -1125899906842624 ≤ x.f0
  · by_cases h2 : x.f0 ≤ 1125899906842624
    · have hv : inS x = mayV x.f1.f0 x.f1.f1 := by simp [inS, h1, h2]
      rw [hv]
      clear hv
      have h3 : decide (-1125899906842624 ≤ x.f0) = true := decide_eq_true h1
      have h4 : decide (x.f0 ≤ 1125899906842624) = true := decide_eq_true h2
      go_enter Try.func55, Try.ntmps55
      go_wp2_with fail
      refine (vecMay_calls _ _ _).mono ?_
      rintro e w1 ⟨rfl, hb⟩
      go_wp2
      go_ret
      exact ⟨rfl, (below_alloc (Below.refl _ _) _).trans (hb.mono (by simp))⟩
    · have hv : inS x = false := by simp [inS, h2]
      rw [hv]
      clear hv
      have h3 : decide (-1125899906842624 ≤ x.f0) = true := decide_eq_true h1
      have h4 : decide (x.f0 ≤ 1125899906842624) = false := decide_eq_false h2
      go_enter Try.func55, Try.ntmps55
      go_wp2
      go_ret
      exact ⟨rfl, below_alloc (Below.refl _ _) _⟩
  · have hv : inS x = false := by simp [inS, h1]
    rw [hv]
    clear hv
    have h3 : decide (-1125899906842624 ≤ x.f0) = false := decide_eq_false h1
    go_enter Try.func55, Try.ntmps55
    go_wp2
    go_ret
    exact ⟨rfl, below_alloc (Below.refl _ _) _⟩
set_option maxHeartbeats 400000 in
set_option maxRecDepth 100000 in
theorem of1_calls (x : Seg) (w : World) : Calls Try.prog 54 #[segV x] w fun e w' => e = .returned (.bool (!inS x)) ∧ Below w.heap.size w w' := by
  have hu30 := Try.underlying30
  have h := fun W => in_calls x W
  unfold segV at *
  go_enter Try.func54, Try.ntmps54
  go_wp2_with fail
  refine (h _).mono ?_
  rintro e w1 ⟨rfl, hb⟩
  clear h
  go_wp2
  go_ret
  exact ⟨rfl, (below_alloc (Below.refl _ _) _).trans (hb.mono (by simp))⟩
def cmpS (x y : Seg) : Int := if x.f0 < y.f0 then -1 else if y.f0 < x.f0 then 1 else 0
set_option maxHeartbeats 400000 in
set_option maxRecDepth 100000 in
theorem compare_calls (r : Value) (x y : Seg) (w : World) : Calls Try.prog 103 #[r, segV x, segV y] w fun e w' => e = .returned (.int .i64 (cmpS x y)) ∧ Below w.heap.size w w' := by
  have hu30 := Try.underlying30
  unfold segV
  by_cases h1 : x.f0 < y.f0
  · have hv : cmpS x y = -1 := by simp [cmpS, h1]
    rw [hv]
    clear hv
    have h3 : decide (x.f0 < y.f0) = true := decide_eq_true h1
    go_enter Try.func103, Try.ntmps103
    go_wp2
    go_ret
    exact ⟨rfl, below_alloc (below_alloc (Below.refl _ _) _) _⟩
  · have h3 : decide (x.f0 < y.f0) = false := decide_eq_false h1
    by_cases h2 : y.f0 < x.f0
    · have hv : cmpS x y = 1 := by simp [cmpS, h1, h2]
      rw [hv]
      clear hv
      have h4 : decide (y.f0 < x.f0) = true := decide_eq_true h2
      go_enter Try.func103, Try.ntmps103
      go_wp2
      go_ret
      exact ⟨rfl, below_alloc (below_alloc (Below.refl _ _) _) _⟩
    · have hv : cmpS x y = 0 := by simp [cmpS, h1, h2]
      rw [hv]
      clear hv
      have h4 : decide (y.f0 < x.f0) = false := decide_eq_false h2
      go_enter Try.func103, Try.ntmps103
      go_wp2
      go_ret
      exact ⟨rfl, below_alloc (below_alloc (Below.refl _ _) _) _⟩
end Go.Proofs.Ytddbnncimggogaa.Lv
