/- rle.Same, rle.Ends, what liverylaw02's functions call. -/
import Derived.Test.YtddbnncimggogaaLv9
import Derived.Test.YtddbnncimggogaaPb20
import Derived.Test.YtddbnncimggogaaPb22
import Derived.Test.YtddbnncimggogaaPb23
namespace Go.Proofs.Ytddbnncimggogaa.Lv
open Go.RowKit Go.Proofs.YtddbnncimggogaaW.PrintWords Go.Proofs.YtddbnncimggogaaW.PrintLast Go.Proofs.YtddbnncimggogaaW.PrintMore Go.Proofs.Ytddbnncimggogaa.Pb Go.Proofs.Ytddbnncimggogaa.SP Go.Proofs.Ytddbnncimggogaa.StSeg
def sameB : List Seg → List Seg → Bool
  | [], [] => true
  | x :: a, y :: b => (x.f0 == y.f0 && (x.f1.f0 == y.f1.f0 && x.f1.f1 == y.f1.f1)) && sameB a b
  | _, _ => false
theorem sameB_iff : ∀ (a b : List Seg), sameB a b = true ↔ a = b
  | [], [] => by simp [sameB]
  | x :: a, [] => by simp [sameB]
  | [], y :: b => by simp [sameB]
  | x :: a, y :: b => by
    have ih := sameB_iff a b
    obtain ⟨x0, x1, x2⟩ := x
    obtain ⟨y0, y1, y2⟩ := y
    simp only [sameB, Bool.and_eq_true, beq_iff_eq, ih, List.cons.injEq, S30.mk.injEq, S28.mk.injEq]
theorem sameB_len : ∀ (a b : List Seg), a.length ≠ b.length → sameB a b = false := fun a b h => by
  rw [Bool.eq_false_iff]
  intro h2
  exact h (by rw [(sameB_iff a b).1 h2])
theorem same_l0 (a b : List Seg) (hn : a.length ≤ 1000000000) (hab : a.length = b.length) : ∀ (d : Nat) (i : Nat), i + d = a.length → api_Seg_59.l0 (d + 1) a b (a.length : Int) (i : Int) = some (sameB (a.drop i) (b.drop i)) := by
  intro d
  induction d with
  | zero =>
    intro i hi
    rw [List.drop_of_length_le (by omega), List.drop_of_length_le (by omega)]
    unfold api_Seg_59.l0
    rw [if_neg (by omega)]
    rfl
  | succ d ih =>
    intro i hi
    have h1 : i < a.length := by omega
    have h2 : i < b.length := by omega
    unfold api_Seg_59.l0
    rw [if_pos (by omega), if_pos (by omega), if_pos (by omega), if_pos (by omega)]
    have ea : rd_T30 a (i : Int) = a[i] := by unfold rd_T30; simp [List.getD_eq_getElem?_getD, List.getElem?_eq_getElem h1]
    have eb : rd_T30 b (i : Int) = b[i] := by unfold rd_T30; simp [List.getD_eq_getElem?_getD, List.getElem?_eq_getElem h2]
    have ew : wrap64 ((i : Int) + 1) = ((i + 1 : Nat) : Int) := by unfold wrap64; omega
    rw [ea, eb, ew, ih (i + 1) (by omega), List.drop_eq_getElem_cons h1, List.drop_eq_getElem_cons h2]
    simp only [sameB]
    cases h3 : (a[i].f0 == b[i].f0) <;> cases h4 : (a[i].f1.f0 == b[i].f1.f0) <;> cases h5 : (a[i].f1.f1 == b[i].f1.f1) <;> rfl
theorem same_f (a b : List Seg) (hn : a.length ≤ 1000000000) : ∃ k, rle_Same.f k a b = some (sameB a b) := by
  unfold rle_Same.f api_Seg_59.f
  by_cases h : a.length = b.length
  · refine ⟨a.length + 1, ?_⟩
    rw [if_pos (by omega)]
    have := same_l0 a b hn h a.length 0 (by omega)
    rw [show ((0 : Nat) : Int) = 0 from rfl] at this
    rw [this]
    rfl
  · refine ⟨0, ?_⟩
    rw [if_neg (by omega), sameB_len a b h]
    rfl
theorem same_calls (A0 : Option Addr) (c0 : Nat) (a : List Seg) (A1 : Option Addr) (c1 : Nat) (b : List Seg) (w : World) (ha : Kd.C kSeg w A0 a.length a) (hc0 : a.length ≤ c0) (hb : Kd.C kSeg w A1 b.length b) (hc1 : b.length ≤ c1) (hn : a.length ≤ 1000000000) :
    Calls Try.prog 18 #[.slice A0 a.length c0, .slice A1 b.length c1] w fun e w' => e = .returned (.bool (sameB a b)) ∧ Below w.heap.size w w' := by
  obtain ⟨k, hk⟩ := same_f a b hn
  refine (rle_Same.calls k A0 c0 a A1 c1 b (sameB a b) w ha hc0 hb hc1 hk).mono ?_
  rintro e w' ⟨rfl, hd⟩
  exact ⟨rfl, by obtain ⟨n, rfl⟩ := hd; exact pw_below_drewN (Below.refl _ _) _⟩
theorem seg02_calls (a b c : Int) (w : World) : Calls Try.prog 52 #[.int .i64 a, .int .i64 b, .int .i64 c] w fun e w' => e = .returned (.agg #[.int .i64 a, .int .i64 b, .int .i64 c]) ∧ Below w.heap.size w w' :=
  liverylaw02_seg.calls a b c a b c w rfl
def endsF (l : List Seg) : Int × Int × Bool := match l with
  | [] => (0, 0, true)
  | x :: t => let z := (x :: t).getD t.length z30; (x.f0, z.f0, z.f1.f0 == 0 && z.f1.f1 == 0)
theorem ends_f (l : List Seg) (hn : l.length ≤ 1000000000) : rle_Ends.f l = some ((endsF l).1, (endsF l).2.1, (endsF l).2.2) := by
  unfold rle_Ends.f
  cases l with
  | nil => rfl
  | cons x t =>
    have hw : wrap64 (((x :: t).length : Int) - 1) = (t.length : Int) := by unfold wrap64; simp at *; omega
    rw [if_neg (by simp; omega), hw, if_pos (by omega), if_pos (by simp; omega), if_pos (by simp; try omega)]
    have e0 : rd_T30 (x :: t) 0 = x := rfl
    have e1 : rd_T30 (x :: t) (t.length : Int) = (x :: t).getD t.length z30 := by unfold rd_T30; simp
    rw [e0, e1]
    rfl
theorem ends_calls (A : Option Addr) (c : Nat) (l : List Seg) (w : World) (h : Kd.C kSeg w A l.length l) (hc : l.length ≤ c) (hn : l.length ≤ 1000000000) :
    Calls Try.prog 22 #[.slice A l.length c] w fun e w' => e = .returned (.tuple #[.int .i64 (endsF l).1, .int .i64 (endsF l).2.1, .bool (endsF l).2.2]) ∧ Below w.heap.size w w' :=
  rle_Ends.calls A c l _ _ _ w h hc (ends_f l hn)
end Go.Proofs.Ytddbnncimggogaa.Lv
