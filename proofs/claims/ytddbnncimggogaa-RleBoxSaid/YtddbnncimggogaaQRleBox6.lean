/- Texts of this claim, joined: PuRleBox. -/
import Derived.Test.YtddbnncimggogaaQRleBox4
import Derived.Test.YtddbnncimggogaaQRleBox2
import Derived.Test.YtddbnncimggogaaQRleBox5
section
/- The pure law of RleBox. -/
namespace Go.Proofs.Ytddbnncimggogaa.Pu
open Go.RowKit Go.Proofs.YtddbnncimggogaaW.PrintWords Go.Proofs.YtddbnncimggogaaW.PrintLast Go.Proofs.YtddbnncimggogaaW.PrintMore Go.Proofs.Ytddbnncimggogaa.Pb Go.Proofs.Ytddbnncimggogaa.Lv Go.Proofs.Ytddbnncimggogaa.SP Go.Proofs.Ytddbnncimggogaa.StSeg
def boxR (a b : Int) (v : Vec) : List Seg := if a = b ∨ (v.f0 = 0 ∧ v.f1 = 0) then [] else [⟨a, v⟩, ⟨b, z28⟩]
theorem vec_eta (v : Vec) : (⟨v.f0, v.f1⟩ : Vec) = v := by cases v; rfl
theorem box_sort (a b : Int) (v : Vec) (h : a ≤ b) : sortS (ltB cmpS) (boxL a b v.f0 v.f1) = [⟨a, v⟩, ⟨b, z28⟩] := by
  have : ltB cmpS ⟨b, ⟨0, 0⟩⟩ ⟨a, ⟨v.f0, v.f1⟩⟩ = false := by rw [ltS]; simp; omega
  unfold sortS boxL
  simp [insS, this, vec_eta]
  rfl
theorem box_foldF (a b : Int) (v : Vec) (h : a ≤ b) : foldF (boxL a b v.f0 v.f1) = boxR a b v := by
  unfold foldF
  rw [box_sort a b v h]
  unfold boxR
  by_cases hab : a = b
  · subst hab; simp [foldB, nextB, putB, z0, z1]
  · by_cases hv : v.f0 = 0 ∧ v.f1 = 0
    · rw [if_pos (.inr hv)]
      simp [foldB, nextB, putB, hv.1, hv.2, z0, z1]
    · rw [if_neg (by rintro (h | h) <;> contradiction)]
      have hb : ¬ b = a := fun h => hab h.symm
      have hp1 : putB ⟨a, v⟩ 0 0 = true := by cases hq : putB ⟨a, v⟩ 0 0 with | true => rfl | false => exfalso; simp [putB] at hq; omega
      have hp2 : putB ⟨b, z28⟩ v.f0 v.f1 = true := by cases hq : putB ⟨b, z28⟩ v.f0 v.f1 with | true => rfl | false => exfalso; simp [putB, z0, z1] at hq; have h1 := of_decide_eq_true hq.1; have h2 := of_decide_eq_true hq.2; exact hv ⟨h1.symm, h2.symm⟩
      have hn1 : nextB ⟨a, v⟩ [⟨b, z28⟩] = true := by simp [nextB, hb]
      have hn2 : nextB ⟨b, z28⟩ [] = true := rfl
      simp only [foldB, hp1, hp2, hn1, hn2, Bool.and_self, if_true]
      rfl
theorem box_refF (a b : Int) (v : Vec) (h : a ≤ b) : refF [⟨a, v⟩, ⟨b, z28⟩] = boxR a b v := by
  unfold refF boxR
  by_cases hab : a = b
  · subst hab
    have ht : timesF [a, a] = [a] := by simp [timesF, insT, cntT]
    simp [ht, rawF, withF, lastV]
  · have ht : timesF [a, b] = [a, b] := by
      have : a < b := by omega
      simp [timesF, insT, cntT, this]
    have hb : ¬ b = a := fun h => hab h.symm
    have hr1 : rawF [⟨a, v⟩, ⟨b, z28⟩] a = v := by simp [rawF, hb]
    have hr2 : rawF [⟨a, v⟩, ⟨b, z28⟩] b = z28 := by simp [rawF]
    simp only [List.map_cons, List.map_nil, ht, List.foldl_cons, List.foldl_nil, hr1, hr2]
    by_cases hv : v.f0 = 0 ∧ v.f1 = 0
    · rw [if_pos (.inr hv)]
      simp [withF, lastV, z0, z1, hv.1, hv.2]
    · rw [if_neg (by rintro (h | h) <;> contradiction)]
      have h1 : withF [] a v = [⟨a, v⟩] := by unfold withF; rw [if_neg (by simpa [lastV, z0, z1] using hv)]; rfl
      rw [h1]
      unfold withF
      rw [if_neg (by simp [lastV, z0, z1]; intro h1 h2; exact hv ⟨h1.symm, h2.symm⟩)]
      rfl
theorem box_same (a b : Int) (v : Vec) : refBox a b v = boxF a b v.f0 v.f1 := by
  unfold refBox boxF
  by_cases h : a > b
  · rw [if_pos h, if_pos h]
  · rw [if_neg h, if_neg h]
    unfold refOf
    have e : (boxL a b v.f0 v.f1) = [⟨a, v⟩, ⟨b, z28⟩] := by unfold boxL; rw [vec_eta]; rfl
    rw [box_foldF a b v (by omega), box_refF a b v (by omega), e]
theorem at_nil (t : Int) : atF [] t = z28 := rfl
theorem boxR_at (a b : Int) (v : Vec) (t : Int) (h : a ≤ b) : atF (boxR a b v) t = if a ≤ t ∧ t < b then v else z28 := by
  unfold boxR
  by_cases hab : a = b
  · rw [if_pos (.inl hab), if_neg (by omega)]; rfl
  · by_cases hv : v.f0 = 0 ∧ v.f1 = 0
    · have : v = z28 := by rw [← vec_eta v, hv.1, hv.2]; rfl
      rw [if_pos (.inr hv), at_nil, this]; simp
    · rw [if_neg (by rintro (h | h) <;> contradiction)]
      simp only [atF, List.foldl_cons, List.foldl_nil]
      by_cases h1 : a ≤ t <;> by_cases h2 : b ≤ t
      · rw [if_pos h2, if_neg (by omega)]
      · rw [if_neg h2, if_pos h1, if_pos (by omega)]
      · omega
      · rw [if_neg h2, if_neg h1, if_neg (by omega)]
theorem boxR_may (a b : Int) (v : Vec) (h : a ≤ b) (hi : ([⟨a, v⟩, ⟨b, z28⟩] : List Seg).all inS = true) : mayF (boxR a b v) = true := by
  unfold boxR
  by_cases hc : a = b ∨ (v.f0 = 0 ∧ v.f1 = 0)
  · rw [if_pos hc]; rfl
  · rw [if_neg hc]
    simp only [List.all_cons, List.all_nil, Bool.and_true, Bool.and_eq_true] at hi
    have ha : -1125899906842624 ≤ a := by have := hi.1; simp [inS] at this; omega
    simp only [mayF, mayB, oddS, hi.1, hi.2, z0, z1]
    simp
    omega
theorem boxR_ends (a b : Int) (v : Vec) : ∃ p q, rle_Ends.f (boxR a b v) = some (p, q, true) := by
  unfold boxR
  by_cases hc : a = b ∨ (v.f0 = 0 ∧ v.f1 = 0)
  · rw [if_pos hc]; exact ⟨0, 0, rfl⟩
  · rw [if_neg hc]
    have hw : wrap64 (((2 : Nat) : Int) - 1) = 1 := by unfold wrap64; omega
    refine ⟨a, b, ?_⟩
    unfold rle_Ends.f
    simp only [List.length_cons, List.length_nil, Nat.zero_add, Nat.reduceAdd]
    rw [if_neg (by decide), hw, if_pos (by decide), if_pos (by decide), if_pos (by decide)]
    rfl
theorem j3_ok (f : List Seg) (p q : Int) (he : rle_Ends.f f = some (p, q, true)) (hn : f.length ≤ 1000000000) (hm : mayF f = true) : Ev (fun k => liverylaw02_RleBox.j3 k f false) true := by
  refine Ev.step (f := fun _ => some _) (fun k => ?_) (Ev.now _)
  simp only [liverylaw02_RleBox.j3]
  rw [if_neg (by simp), he]
  simp only [Option.bind_some, if_true]
  unfold rle_May.f
  rw [if_pos hn, hm]
  rfl
theorem boxR_len (a b : Int) (v : Vec) : (boxR a b v).length ≤ 2 := by unfold boxR; split <;> simp
theorem j2_ok (a b : Int) (v : Vec) (h : a ≤ b) (hi : ([⟨a, v⟩, ⟨b, z28⟩] : List Seg).all inS = true) : Ev (fun k => liverylaw02_RleBox.j2 k a b (boxR a b v) 0 false v.f0 v.f1) true := by
  have hl := boxR_len a b v
  have hA : ∀ t, rle_At.f (boxR a b v) t = some (if a ≤ t ∧ t < b then (v.f0, v.f1) else (0, 0)) := fun t => by
    unfold rle_At.f
    rw [if_pos (by omega), boxR_at a b v t h]
    split <;> rfl
  have hr : -1125899906842624 ≤ a ∧ a ≤ 1125899906842624 ∧ -1125899906842624 ≤ b ∧ b ≤ 1125899906842624 := by
    simp only [List.all_cons, List.all_nil, Bool.and_true, Bool.and_eq_true] at hi
    have h1 := hi.1
    have h2 := hi.2
    simp [inS] at h1 h2
    omega
  have hw1 : wrap64 (b - 1) = b - 1 := by unfold wrap64; omega
  have hw2 : wrap64 (a - 1) = a - 1 := by unfold wrap64; omega
  obtain ⟨p, q, he⟩ := boxR_ends a b v
  refine Ev.step (fun k => ?_) (j3_ok (boxR a b v) p q he (by omega) (boxR_may a b v h hi))
  simp only [liverylaw02_RleBox.j2]
  rw [if_neg (by simp), if_pos trivial, hw1, hw2, hA, hA, hA, hA]
  rw [if_neg (show ¬ (a ≤ a - 1 ∧ a - 1 < b) by omega), if_neg (show ¬ (a ≤ b ∧ b < b) by omega)]
  by_cases hab : a < b
  · rw [if_pos hab, if_pos (by omega), if_pos (by omega)]
    simp
  · rw [if_neg hab]
    simp
theorem j2_bad (a b e m c : Int) (he : e ≠ 0) : Ev (fun k => liverylaw02_RleBox.j2 k a b [] e false m c) true := by
  refine Ev.step (f := fun _ => some _) (fun k => ?_) (Ev.now _)
  simp only [liverylaw02_RleBox.j2]
  rw [if_neg (by simp), if_neg he]
  rfl
theorem j1_ok (a b : Int) (l f : List Seg) (e m c : Int) (hn : l.length ≤ 60) (h : Ev (fun k => liverylaw02_RleBox.j2 k a b f e false m c) true) : Ev (fun k => liverylaw02_RleBox.j1 k a b l f e false m c) true := by
  refine Ev.step (fun k => ?_) h
  simp only [liverylaw02_RleBox.j1]
  rw [if_neg (by simp)]
  unfold rle_Ends.f
  by_cases h0 : (l.length : Int) = 0
  · rw [if_pos h0]
    simp only [Option.bind_some]
    rw [if_pos h0]
    simp only [if_true]
    rw [if_neg (by omega)]
  · have hw : wrap64 ((l.length : Int) - 1) = (l.length : Int) - 1 := by unfold wrap64; omega
    rw [if_neg h0, hw, if_pos (by omega), if_pos (by omega), if_pos (by omega)]
    simp only [Option.bind_some]
    rw [if_neg h0, if_pos (by omega), if_pos (by omega)]
    simp only [if_true]
    rw [if_pos (by omega), if_pos (by omega)]
    simp
theorem RleBox (a b : Int) (l : List Seg) : ∃ k, liverylaw02_RleBox.f k a b l = some true := by
  apply Ev.rounds
  by_cases hn : (l.length : Int) > 60
  · refine Ev.congr (f := fun _ => some _) (fun k => ?_) (Ev.now _)
    simp only [liverylaw02_RleBox.f]
    rw [if_pos hn]
    rfl
  · have key : ∀ v : Vec, Ev (fun k => liverylaw02_RleBox.j0 k a b l v.f0 v.f1) true := fun v => by
      have hj1 : Ev (fun k => liverylaw02_RleBox.j1 k a b l (boxF a b v.f0 v.f1).1 (boxF a b v.f0 v.f1).2 false v.f0 v.f1) true := by
        refine j1_ok a b l _ _ _ _ (by omega) ?_
        unfold boxF
        by_cases hab : a > b
        · rw [if_pos hab]
          exact j2_bad a b 2 v.f0 v.f1 (by decide)
        · rw [if_neg hab]
          have e : (boxL a b v.f0 v.f1) = [⟨a, v⟩, ⟨b, z28⟩] := by unfold boxL; rw [vec_eta]; rfl
          by_cases hi : (boxL a b v.f0 v.f1).all inS = true
          · rw [if_pos hi, box_foldF a b v (by omega)]
            rw [e] at hi
            exact j2_ok a b v (by omega) hi
          · rw [if_neg hi]
            exact j2_bad a b 10 v.f0 v.f1 (by decide)
      refine Ev.step (f := fun k => (liveryref02_Box.f k a b v.f0 v.f1).bind fun bt108 => ((liveryref02_Same.f k (boxF a b v.f0 v.f1).1 bt108.1).bind fun t112 => (if t112 = true then (liverylaw02_RleBox.j1 k a b l (boxF a b v.f0 v.f1).1 (boxF a b v.f0 v.f1).2 ((boxF a b v.f0 v.f1).2 != bt108.2) v.f0 v.f1) else (liverylaw02_RleBox.j1 k a b l (boxF a b v.f0 v.f1).1 (boxF a b v.f0 v.f1).2 true v.f0 v.f1)))) (fun k => ?_) ?_
      · simp only [liverylaw02_RleBox.j0, rle_Box.f, Option.bind_some]
      · refine Ev.bind (box02 a b v) ?_
        rw [box_same a b v]
        have hl : (boxF a b v.f0 v.f1).1.length ≤ 2 := by
          unfold boxF
          split
          · simp
          · split
            · rw [box_foldF a b v (by omega)]; exact boxR_len a b v
            · simp
        refine Ev.bind (same02 _ _ (by omega)) ?_
        have hs : sameB (boxF a b v.f0 v.f1).1 (boxF a b v.f0 v.f1).1 = true := (sameB_iff _ _).2 rfl
        refine Ev.congr (fun k => ?_) hj1
        rw [hs, if_pos rfl]
        simp
    by_cases h0 : (l.length : Int) > 0
    · refine Ev.congr (fun k => ?_) (key (rd_T30 l 0).f1)
      simp only [liverylaw02_RleBox.f]
      rw [if_neg hn, if_pos h0, if_pos h0]
    · refine Ev.congr (fun k => ?_) (key ⟨1, 2⟩)
      simp only [liverylaw02_RleBox.f]
      rw [if_neg hn, if_neg h0]
end Go.Proofs.Ytddbnncimggogaa.Pu
namespace Go.Proofs.Ytddbnncimggogaa.Pu
open Go.RowKit Go.Proofs.YtddbnncimggogaaW.PrintWords Go.Proofs.YtddbnncimggogaaW.PrintLast Go.Proofs.YtddbnncimggogaaW.PrintMore Go.Proofs.Ytddbnncimggogaa.Pb Go.Proofs.Ytddbnncimggogaa.Lv
theorem rlebox_walk (n0 n1 : Int) (A : Option Addr) (c : Nat) (l : List Seg) (w : World) (_h0 : LvR.I64 n0) (_h1 : LvR.I64 n1) (hC : Kd.C kSeg w A l.length l) (hc : l.length ≤ c) :
    Calls Try.prog 5 #[.int .i64 n0, .int .i64 n1, .slice A l.length c] w fun e w' => e = .returned (.bool true) ∧ Below w.heap.size w w' := by
  obtain ⟨k, h⟩ := RleBox n0 n1 l
  exact liverylaw02_RleBox.calls k n0 n1 A c l true w hC hc h
end Go.Proofs.Ytddbnncimggogaa.Pu
end
