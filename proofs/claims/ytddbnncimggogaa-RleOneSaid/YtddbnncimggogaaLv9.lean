/- rle.Of, rle.Box. -/
import Derived.Test.YtddbnncimggogaaLv8
namespace Go.Proofs.Ytddbnncimggogaa.Lv
open Go.RowKit Go.Proofs.YtddbnncimggogaaW.PrintWords Go.Proofs.YtddbnncimggogaaW.PrintLast Go.Proofs.YtddbnncimggogaaW.PrintMore Go.Proofs.Ytddbnncimggogaa.Pb Go.Proofs.Ytddbnncimggogaa.SP Go.Proofs.Ytddbnncimggogaa.StSeg
def OfPost (w : World) (xs : List Seg) (e : Ending) (w' : World) : Prop :=
  (xs.all inS = true ∧ ∃ v, e = .returned (.tuple #[v, .int .i64 0]) ∧ Kd.R kSeg 30 w' w.heap.size (fun _ => True) v (foldF xs) ∧ Below w.heap.size w w') ∨
  (xs.all inS = false ∧ e = .returned (.tuple #[.slice none 0 0, .int .i64 10]) ∧ Below w.heap.size w w')
set_option maxHeartbeats 400000 in
set_option maxRecDepth 100000 in
theorem of_calls (A : Option Addr) (c : Nat) (xs : List Seg) (w : World) (HC : Kd.C kSeg w A xs.length xs) (hn : xs.length ≤ 1000000000) :
    Calls Try.prog 16 #[.slice A xs.length c] w (OfPost w xs) := by
  have H := containsFunc_Seg 54 #[] A c xs (fun i W => Below w.heap.size w W ∧ (xs.take i).all inS = true) (fun _ W => Below w.heap.size w W ∧ xs.all inS = false) w
    (fun i W h => Kd.C_below HC h.1)
    (fun i hi W h => (of1_calls xs[i] W).mono (by
      rintro e W' ⟨rfl, hb⟩
      cases ho : inS xs[i]
      · refine .inr ⟨rfl, below_step h.1 hb, ?_⟩
        rw [Bool.eq_false_iff]
        intro h2
        rw [List.all_eq_true] at h2
        have := h2 xs[i] (List.getElem_mem hi)
        rw [ho] at this
        cases this
      · refine .inl ⟨rfl, below_step h.1 hb, ?_⟩
        rw [List.take_succ_eq_append_getElem hi, List.all_append, h.2]
        simp [ho])) (fun _ _ => rfl) ⟨Below.refl _ _, by simp⟩ (by omega)
  rw [List.take_of_length_le (Nat.le_refl _)] at H
  have H1 := Aside0.mk H
  have HF := Aside0.mk (fun W (hb : Below w.heap.size w W) => folded_calls A c xs W (Kd.C_below HC hb) hn)
  clear H HC hn
  go_enter Try.func16, Try.ntmps16
  go_wp2_with fail
  refine H1.out.mono ?_
  rintro e w1 (⟨rfl, hb, ha⟩ | ⟨i, rfl, hb, ha⟩)
  · have HB := Aside0.mk hb
    have HA := Aside0.mk ha
    clear hb ha H1
    go_wp2_with fail
    refine (HF.out _ HB.out).mono ?_
    rintro e w2 ⟨v, rfl, hv, hb2⟩
    have HV := Aside0.mk hv
    have HB2 := Aside0.mk hb2
    clear hv hb2 HF
    go_wp2
    go_ret2
    exact .inl ⟨HA.out, v, rfl, Kd.R_lower HV.out HB.out.size, below_step HB.out HB2.out⟩
  · have HB := Aside0.mk hb
    have HA := Aside0.mk ha
    clear hb ha H1 HF
    go_wp2
    go_ret2
    exact .inr ⟨HA.out, rfl, HB.out⟩
/-- The row of a box. -/
def boxL (a b m c : Int) : List Seg := [⟨a, ⟨m, c⟩⟩, ⟨b, ⟨0, 0⟩⟩]
def BoxPost (w : World) (a b m c : Int) (e : Ending) (w' : World) : Prop :=
  (a > b ∧ e = .returned (.tuple #[.slice none 0 0, .int .i64 2]) ∧ Below w.heap.size w w') ∨ (a ≤ b ∧ OfPost w (boxL a b m c) e w')
set_option maxHeartbeats 400000 in
set_option maxRecDepth 100000 in
theorem box_calls (a b m c : Int) (w : World) : Calls Try.prog 19 #[.int .i64 a, .int .i64 b, .agg #[.int .i64 m, .int .i64 c]] w (BoxPost w a b m c) := by
  have hu30 := Try.underlying30
  have hu28 := Try.underlying28
  by_cases h : a > b
  · have h' : b < a := h
    have HH := Aside0.mk h'
    go_enter Try.func19, Try.ntmps19
    go_wp2
    go_ret2
    exact .inl ⟨HH.out, rfl, below_alloc (Below.refl _ _) _⟩
  · have h' : ¬ b < a := h
    have HH := Aside0.mk h'
    clear h
    have d := blk_new w (.cells #[.int .i64 m, .int .i64 c] 28)
    have e0 := (blk_cell d 0).trans rfl
    have e1 := (blk_cell d 1).trans rfl
    clear d
    obtain ⟨W, hW⟩ : ∃ W, W = ((w.alloc (.cells #[.int .i64 m, .int .i64 c] 28)).alloc (.cells #[.int .i64 a, .int .i64 m, .int .i64 c, .int .i64 b, .int .i64 0, .int .i64 0] 30)) := ⟨_, rfl⟩
    have hb2 : Below w.heap.size w W := by rw [hW]; exact below_alloc (below_alloc (Below.refl _ _) _) _
    have hrow : Row (w.heap.size + 1) 6 (boxL a b m c) W := by
      refine ⟨#[.int .i64 a, .int .i64 m, .int .i64 c, .int .i64 b, .int .i64 0, .int .i64 0], ?_, rfl, by simp [boxL], fun i hi => ?_⟩
      · have := blk_new (w.alloc (.cells #[.int .i64 m, .int .i64 c] 28)) (.cells #[.int .i64 a, .int .i64 m, .int .i64 c, .int .i64 b, .int .i64 0, .int .i64 0] 30)
        rw [← hW] at this
        simpa using this
      · match i, hi with
        | 0, _ => exact ⟨rfl, rfl, rfl⟩
        | 1, _ => exact ⟨rfl, rfl, rfl⟩
        | i + 2, hi => simp [boxL] at hi; omega
    have H := of_calls (some ⟨w.heap.size + 1, 0, none⟩) 2 (boxL a b m c) W (C_of_row hrow (by simp [boxL])) (by simp [boxL])
    have HO := Aside0.mk H
    have HB := Aside0.mk hb2
    clear H hrow hb2
    go_enter Try.func19, Try.ntmps19
    go_wp2_with fail
    rw [← hW]
    refine (show Calls Try.prog 16 #[.slice (some ⟨w.heap.size + 1, 0, none⟩) 2 2] W (OfPost W (boxL a b m c)) from HO.out).mono ?_
    clear hW HO e0 e1
    rintro e w2 (⟨ha, v, rfl, hv, hb⟩ | ⟨ha, rfl, hb⟩)
    · have HV := Aside0.mk hv
      have HA := Aside0.mk ha
      have HB2 := Aside0.mk hb
      clear hv ha hb
      go_wp2
      go_ret2
      exact .inr ⟨by have := HH.out; omega, .inl ⟨HA.out, v, rfl, Kd.R_lower HV.out HB.out.size, below_step HB.out HB2.out⟩⟩
    · have HA := Aside0.mk ha
      have HB2 := Aside0.mk hb
      clear ha hb
      go_wp2
      go_ret2
      exact .inr ⟨by have := HH.out; omega, .inr ⟨HA.out, rfl, below_step HB.out HB2.out⟩⟩
end Go.Proofs.Ytddbnncimggogaa.Lv
