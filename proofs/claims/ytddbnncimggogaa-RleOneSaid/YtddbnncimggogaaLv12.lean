/- What the function of raw runs has at a time: plain. -/
import Derived.Test.YtddbnncimggogaaLv8
namespace Go.Proofs.Ytddbnncimggogaa.Lv
open Go.Proofs.Ytddbnncimggogaa.SP Go.Proofs.Ytddbnncimggogaa.StSeg Go.Proofs.Ytddbnncimggogaa.Pb
structure WS where
  v : Vec
  a : Int
  is : Bool
def stepW (t : Int) (S : WS) (x : Seg) : WS := if x.f0 ≤ t ∧ (S.is = false ∨ S.a ≤ x.f0) then ⟨x.f1, x.f0, true⟩ else S
def s0 : WS := ⟨z28, 0, false⟩
def wantF (xs : List Seg) (t : Int) : Vec := (xs.foldl (stepW t) s0).v
theorem step_up (t : Int) : ∀ (l : List Seg) (S : WS), S.is = true → (l.foldl (stepW t) S).is = true ∧ S.a ≤ (l.foldl (stepW t) S).a
  | [], S, h => ⟨h, Int.le_refl _⟩
  | x :: l, S, h => by
    rw [List.foldl_cons]
    by_cases c : x.f0 ≤ t ∧ (S.is = false ∨ S.a ≤ x.f0)
    · have e : stepW t S x = ⟨x.f1, x.f0, true⟩ := if_pos c
      rw [e]
      have ih := step_up t l ⟨x.f1, x.f0, true⟩ rfl
      refine ⟨ih.1, ?_⟩
      have h2 : S.a ≤ x.f0 := by rcases c.2 with c2 | c2; rw [h] at c2; cases c2; exact c2
      exact Int.le_trans h2 ih.2
    · have e : stepW t S x = S := if_neg c
      rw [e]
      exact step_up t l S h
theorem step_past (t : Int) (x : Seg) : ∀ (l : List Seg) (S : WS), (∀ z ∈ l, x.f0 < z.f0) → (S.is = true → S.a ≤ x.f0) → l.foldl (stepW t) (stepW t S x) = stepW t (l.foldl (stepW t) S) x
  | [], S, _, _ => rfl
  | z :: l, S, h, hS => by
    have hz := h z (List.mem_cons_self ..)
    rw [List.foldl_cons, List.foldl_cons]
    by_cases c : z.f0 ≤ t
    · have hSx : stepW t S x = ⟨x.f1, x.f0, true⟩ := if_pos ⟨by omega, by cases e : S.is; exact .inl rfl; exact .inr (hS e)⟩
      have hSz : stepW t S z = ⟨z.f1, z.f0, true⟩ := if_pos ⟨c, by cases e : S.is; exact .inl rfl; exact .inr (by have := hS e; omega)⟩
      have h2 : stepW t (stepW t S x) z = ⟨z.f1, z.f0, true⟩ := by rw [hSx]; exact if_pos ⟨c, .inr (by show x.f0 ≤ z.f0; omega)⟩
      rw [h2, hSz]
      have up := step_up t l ⟨z.f1, z.f0, true⟩ rfl
      symm
      refine if_neg ?_
      rintro ⟨_, h3 | h3⟩
      · rw [up.1] at h3; cases h3
      · have h4 : z.f0 ≤ (l.foldl (stepW t) ⟨z.f1, z.f0, true⟩).a := up.2
        omega
    · have h1 : stepW t S z = S := if_neg (fun q => c q.1)
      have h2 : stepW t (stepW t S x) z = stepW t S x := if_neg (fun q => c q.1)
      rw [h1, h2]
      exact step_past t x l S (fun y hy => h y (List.mem_cons_of_mem _ hy)) hS
theorem step_ins (t : Int) (x : Seg) : ∀ (s : List Seg) (S : WS), Srt (ltB cmpS) s → (S.is = true → S.a ≤ x.f0) → (insS (ltB cmpS) x s).foldl (stepW t) S = stepW t (s.foldl (stepW t) S) x
  | [], S, _, _ => rfl
  | y :: s, S, hs, hS => by
    have hy := List.pairwise_cons.1 hs
    unfold insS
    rw [ltS]
    by_cases c : x.f0 < y.f0
    · rw [if_pos (by simpa using c), List.foldl_cons]
      refine step_past t x (y :: s) S (fun z hz => ?_) hS
      rcases List.mem_cons.1 hz with rfl | hz
      · exact c
      · have := hy.1 z hz
        rw [ltS] at this
        simp at this
        omega
    · rw [if_neg (by simpa using c), List.foldl_cons, List.foldl_cons]
      refine step_ins t x s _ hy.2 (fun h => ?_)
      by_cases d : y.f0 ≤ t ∧ (S.is = false ∨ S.a ≤ y.f0)
      · have e : stepW t S y = ⟨y.f1, y.f0, true⟩ := if_pos d
        rw [e]
        show y.f0 ≤ x.f0
        omega
      · have e : stepW t S y = S := if_neg d
        rw [e] at h ⊢
        exact hS h
theorem step_fold (t : Int) : ∀ (l acc : List Seg), Srt (ltB cmpS) acc → (l.foldl (fun acc x => insS (ltB cmpS) x acc) acc).foldl (stepW t) s0 = l.foldl (stepW t) (acc.foldl (stepW t) s0)
  | [], _, _ => rfl
  | x :: l, acc, h => by
    rw [List.foldl_cons, List.foldl_cons, step_fold t l _ (srt_insS swoS x acc h), step_ins t x acc s0 h (fun e => by cases e)]
theorem want_sort (xs : List Seg) (t : Int) : wantF (sortS (ltB cmpS) xs) t = wantF xs t := by
  unfold wantF sortS
  rw [step_fold t xs [] Srt.nil]
  rfl
theorem want_srt (t : Int) : ∀ (s : List Seg) (S : WS), Srt (ltB cmpS) s → (∀ z ∈ s, S.is = true → S.a ≤ z.f0) → (s.foldl (stepW t) S).v = s.foldl (fun v x => if x.f0 ≤ t then x.f1 else v) S.v
  | [], S, _, _ => rfl
  | x :: s, S, hs, h => by
    have hx := List.pairwise_cons.1 hs
    rw [List.foldl_cons, List.foldl_cons]
    by_cases c : x.f0 ≤ t
    · have e : stepW t S x = ⟨x.f1, x.f0, true⟩ := if_pos ⟨c, by cases e : S.is; exact .inl rfl; exact .inr (h x (List.mem_cons_self ..) e)⟩
      rw [e, if_pos c]
      refine want_srt t s _ hx.2 (fun z hz _ => ?_)
      have := hx.1 z hz
      rw [ltS] at this
      simp at this
      exact this
    · have e : stepW t S x = S := if_neg (fun q => c q.1)
      rw [e, if_neg c]
      exact want_srt t s S hx.2 (fun z hz => h z (List.mem_cons_of_mem _ hz))
theorem atF_snoc (acc : List Seg) (x : Seg) (t : Int) : atF (acc ++ [x]) t = if x.f0 ≤ t then x.f1 else atF acc t := by simp [atF]
theorem fold_at (t : Int) : ∀ (s acc : List Seg) (lm lc : Int), Srt (ltB cmpS) s → ((∃ x ∈ s, x.f0 ≤ t) → atF acc t = ⟨lm, lc⟩) → atF (foldB s acc lm lc) t = s.foldl (fun v x => if x.f0 ≤ t then x.f1 else v) (atF acc t)
  | [], acc, _, _, _, _ => rfl
  | x :: s, acc, lm, lc, hs, hQ => by
    have hx := List.pairwise_cons.1 hs
    have hle : ∀ z ∈ s, x.f0 ≤ z.f0 := fun z hz => by have := hx.1 z hz; rw [ltS] at this; simpa using this
    have hQ' : (∃ y ∈ s, y.f0 ≤ t) → atF acc t = ⟨lm, lc⟩ := fun ⟨y, hy, h⟩ => hQ ⟨y, List.mem_cons_of_mem _ hy, h⟩
    unfold foldB
    rw [List.foldl_cons]
    cases hn : nextB x s
    · rw [if_neg (by simp)]
      rw [fold_at t s acc lm lc hx.2 hQ']
      cases s with
      | nil => simp [nextB] at hn
      | cons y s' =>
        simp only [nextB, Bool.not_eq_false', beq_iff_eq] at hn
        rw [List.foldl_cons, List.foldl_cons]
        congr 1
        by_cases c : y.f0 ≤ t
        · rw [if_pos c, if_pos c]
        · rw [if_neg c, if_neg c, if_neg (by omega)]
    · cases hp : putB x lm lc
      · rw [if_neg (by simp)]
        rw [fold_at t s acc lm lc hx.2 hQ']
        congr 1
        by_cases c : x.f0 ≤ t
        · rw [if_pos c, hQ ⟨x, List.mem_cons_self .., c⟩]
          simp [putB] at hp
          rw [← hp.1, ← hp.2]
        · rw [if_neg c]
      · rw [if_pos (by simp)]
        rw [fold_at t s (acc ++ [x]) x.f1.f0 x.f1.f1 hx.2 (fun ⟨y, hy, h⟩ => by rw [atF_snoc, if_pos (by have := hle y hy; omega)]), atF_snoc]
theorem at_fold (xs : List Seg) (t : Int) : atF (foldF xs) t = wantF xs t := by
  have hs := sortS_srt swoS xs
  rw [← want_sort]
  unfold foldF wantF
  rw [fold_at t _ [] 0 0 hs (fun _ => rfl), want_srt t _ s0 hs (fun _ _ h => by cases h)]
  rfl
theorem foldB_len : ∀ (s acc : List Seg) (lm lc : Int), (foldB s acc lm lc).length ≤ acc.length + s.length
  | [], acc, _, _ => Nat.le_refl _
  | x :: s, acc, lm, lc => by
    unfold foldB
    split
    · have := foldB_len s (acc ++ [x]) x.f1.f0 x.f1.f1
      simp at this ⊢; omega
    · have := foldB_len s acc lm lc
      simp at this ⊢; omega
theorem foldF_len (xs : List Seg) : (foldF xs).length ≤ xs.length := by
  have := foldB_len (sortS (ltB cmpS) xs) [] 0 0
  rw [← (sortS_stb swoS xs).1] at this
  simpa [foldF] using this
end Go.Proofs.Ytddbnncimggogaa.Lv
