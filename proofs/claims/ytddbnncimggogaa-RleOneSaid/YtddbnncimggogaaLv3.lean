/- rle.At: the value at a time. -/
import Derived.Test.YtddbnncimggogaaLv2
import Derived.Test.YtddbnncimggogaaPb17
namespace Go.Proofs.Ytddbnncimggogaa.Lv
open Go.RowKit Go.Proofs.YtddbnncimggogaaW.PrintWords Go.Proofs.YtddbnncimggogaaW.PrintLast Go.Proofs.YtddbnncimggogaaW.PrintMore Go.Proofs.Ytddbnncimggogaa.Pb
/-- Do runs rise (not strictly) from place i on downwards. -/
def Up (xs : List Seg) (i : Nat) : Prop := ∀ j, i ≤ j → j + 1 < xs.length → (rd_T30 xs j).f0 ≤ (rd_T30 xs (j + 1)).f0
noncomputable def upB (xs : List Seg) : Bool := @decide (Up xs 0) (Classical.propDecidable _)
theorem upB_true {xs : List Seg} (h : Up xs 0) : upB xs = true := by unfold upB; exact @decide_eq_true _ (Classical.propDecidable _) h
theorem upB_false {xs : List Seg} (h : ¬ Up xs 0) : upB xs = false := by unfold upB; exact @decide_eq_false _ (Classical.propDecidable _) h
set_option maxHeartbeats 400000 in
set_option maxRecDepth 100000 in
theorem isSorted_calls (A : Option Addr) (c : Nat) (xs : List Seg) (rv : Value) (w : World) (hr : Kd.C kSeg w A xs.length xs) (hn : xs.length ≤ 9223372036854775807) :
    Calls Try.prog 105 #[.slice A xs.length c, .func (.func 103) #[rv] #[]] w fun e w' => e = .returned (.bool (upB xs)) ∧ Below w.heap.size w w' := by
  have hu30 := Try.underlying30
  have hcmp := fun (x y : Seg) W => compare_calls rv x y W
  unfold segV at hcmp
  have HCM := Aside0.mk hcmp
  have HR := Aside0.mk hr
  clear hcmp hr
  go_enter Try.func105, Try.ntmps105
  go_wp2
  by_cases h0 : xs.length = 0
  · obtain rfl : xs = [] := List.eq_nil_of_length_eq_zero h0
    have hd : decide ((0 : Int) < ((([] : List Seg).length : Nat) : Int) - 1) = false := by simp
    go_loopw [5] (fun v5 wr => v5 = .int .i64 (-1) ∧ Below w.heap.size w wr) (fun v5 _ => 0)
    case atStart => exact ⟨by simp, Below.refl _ _⟩
    case round =>
      obtain ⟨rfl, hB⟩ := hrel
      go_wp2
      go_ret
      exact ⟨bool_eq (upB_true (fun j h1 h2 => by simp at h2)).symm, hB⟩
  go_loopw [5] (fun v5 wr => ∃ k : Int, 0 ≤ k ∧ k < xs.length ∧ v5 = .int .i64 k ∧ Below w.heap.size w wr ∧ Up xs k.toNat) (fun v5 _ => (intOf v5).toNat)
  case atStart => exact ⟨xs.length - 1, by omega, by omega, rfl, Below.refl _ _, fun j h1 h2 => by omega⟩
  case round =>
    obtain ⟨k, hk0, hk, rfl, hB, hup⟩ := hrel
    have hcr := Kd.C_below HR.out hB
    by_cases hpos : 0 < k
    · obtain ⟨ad, e, hx0, hx1, hx2⟩ := at_T30 hcr k (by omega) (by omega)
      obtain ⟨m, hm⟩ : ∃ m, m = k - 1 := ⟨_, rfl⟩
      have hw : IntKind.i64.wrap (k - 1) = m := by rw [IntKind.wrap_i64]; omega
      have hq0 : 0 ≤ m := by omega
      have hq1 : m < xs.length := by omega
      obtain ⟨ad', e', hy0, hy1, hy2⟩ := at_T30 hcr m hq0 hq1
      have HM := Aside0.mk hm
      clear hm
      rw [e] at e'
      cases e'
      cases e
      have x0 := fun p : InB wr => InB.cell hx0 p
      have x1 := fun p : InB wr => InB.cell hx1 p
      have x2 := fun p : InB wr => InB.cell hx2 p
      have y0 := fun p : InB wr => InB.cell hy0 p
      have y1 := fun p : InB wr => InB.cell hy1 p
      have y2 := fun p : InB wr => InB.cell hy2 p
      clear hx0 hx1 hx2 hy0 hy1 hy2 hcr
      have HBB := Aside0.mk hB
      have HUP := Aside0.mk hup
      clear hB hup
      go_wp2_with fail
      refine wp_region_inB (by kernel_rfl) (by kernel_rfl) ?_
      repeat (quiet_step ((go_at_call 103; exact Calls.inB (HCM.out _ _ _))))
      refine wpQuiet_nil ?_
      rintro _ ⟨⟨w1, hb1⟩, rfl⟩
      try dsimp only
      clear x0 x1 x2 y0 y1 y2 hw hq0 hq1
      obtain rfl := HM.out
      clear HM
      by_cases hc : cmpS (rd_T30 xs k) (rd_T30 xs (k - 1)) < 0
      · have hd : decide (cmpS (rd_T30 xs k) (rd_T30 xs (k - 1)) < 0) = true := decide_eq_true hc
        go_wp2
        go_ret
        refine ⟨bool_eq (upB_false ?_).symm, below_step HBB.out hb1⟩
        have hlt : (rd_T30 xs k).f0 < (rd_T30 xs (k - 1)).f0 := by
          unfold cmpS at hc; split at hc
          · assumption
          · split at hc <;> omega
        intro hu
        have h1 := hu (k.toNat - 1) (Nat.zero_le _) (by omega)
        have e1 : ((k.toNat - 1 : Nat) : Int) = k - 1 := by omega
        rw [e1] at h1
        have e2 : k - 1 + 1 = k := by omega
        rw [e2] at h1
        omega
      · have hd : decide (cmpS (rd_T30 xs k) (rd_T30 xs (k - 1)) < 0) = false := decide_eq_false hc
        go_wp2
        go_roundw
        case rel =>
          refine ⟨k - 1, by omega, by omega, rfl, below_step HBB.out hb1, ?_⟩
          intro j h1 h2
          by_cases hj : j = (k - 1).toNat
          · subst hj
            have e1 : (((k - 1).toNat : Nat) : Int) = k - 1 := by omega
            rw [e1, show k - 1 + 1 = k by omega]
            unfold cmpS at hc
            split at hc
            · omega
            · omega
          · exact HUP.out j (by omega) h2
        case measure => simp [intOf]; omega
    · obtain rfl : k = 0 := by omega
      go_wp2
      go_ret
      exact ⟨bool_eq (upB_true (by simpa using hup)).symm, hB⟩
set_option maxHeartbeats 400000 in
set_option maxRecDepth 100000 in
theorem rises_calls (A : Option Addr) (c : Nat) (xs : List Seg) (w : World) (hr : Kd.C kSeg w A xs.length xs) (hn : xs.length ≤ 9223372036854775807) :
    Calls Try.prog 57 #[.slice A xs.length c] w fun e w' => e = .returned (.bool (upB xs)) ∧ Below w.heap.size w w' := by
  have H := isSorted_calls A c xs (.slice A xs.length c) w hr hn
  clear hr
  go_enter Try.func57, Try.ntmps57
  go_wp2_with fail
  refine H.mono ?_
  rintro e w1 ⟨rfl, hb⟩
  clear H
  go_wp2
  go_ret
  exact ⟨rfl, hb⟩
/-- The value at a time: of the last run that begins by then. -/
def atF (xs : List Seg) (t : Int) : Vec := xs.foldl (fun v x => if x.f0 ≤ t then x.f1 else v) z28
theorem slow_l0 (t : Int) (xs : List Seg) (hn : xs.length ≤ 9223372036854775807) (d : Nat) : ∀ (k : Nat) (i : Nat) (v : Vec), i + d = xs.length → d < k →
    rle_slow.l0 k t xs (xs.length : Int) (i : Int) v.f0 v.f1 = some (((xs.drop i).foldl (fun v x => if x.f0 ≤ t then x.f1 else v) v).f0, ((xs.drop i).foldl (fun v x => if x.f0 ≤ t then x.f1 else v) v).f1) := by
  induction d with
  | zero =>
    intro k i v hi hk
    obtain ⟨k, rfl⟩ : ∃ m, k = m + 1 := ⟨k - 1, by omega⟩
    simp only [rle_slow.l0]
    rw [if_neg (by omega), List.drop_of_length_le (by omega)]
    rfl
  | succ d ih =>
    intro k i v hi hk
    obtain ⟨k, rfl⟩ : ∃ m, k = m + 1 := ⟨k - 1, by omega⟩
    have hlt : i < xs.length := by omega
    have hw : wrap64 ((i : Int) + 1) = ((i + 1 : Nat) : Int) := by unfold wrap64; omega
    have hq : rd_T30 xs (i : Int) = xs[i] := (rd_seg xs (i : Int) (by simpa using hlt)).symm
    simp only [rle_slow.l0]
    rw [if_pos (by omega), if_pos (by omega), if_pos (by omega), hq, hw]
    rw [List.drop_eq_getElem_cons hlt, List.foldl_cons]
    by_cases h : xs[i].f0 ≤ t
    · rw [if_pos h, if_pos h]
      exact ih k (i + 1) xs[i].f1 (by omega) (by omega)
    · rw [if_neg h, if_neg h]
      exact ih k (i + 1) v (by omega) (by omega)
theorem slow_calls (A : Option Addr) (c : Nat) (xs : List Seg) (t : Int) (w : World) (hr : Kd.C kSeg w A xs.length xs) (hc : xs.length ≤ c) (hn : xs.length ≤ 9223372036854775807) :
    Calls Try.prog 58 #[.slice A xs.length c, .int .i64 t] w fun e w' => e = .returned (vecV (atF xs t)) ∧ Below w.heap.size w w' :=
  rle_slow.calls (xs.length + 1) A c xs t _ _ w hr hc (by unfold rle_slow.f; exact slow_l0 t xs hn xs.length (xs.length + 1) 0 z28 (by omega) (by omega))
end Go.Proofs.Ytddbnncimggogaa.Lv
