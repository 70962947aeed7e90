/- Canonical rows that have the same values where one of them changes are the same: plain. -/
import Derived.Test.YtddbnncimggogaaLv10
import Derived.Test.YtddbnncimggogaaLv12
namespace Go.Proofs.Ytddbnncimggogaa.Lv
open Go.Proofs.Ytddbnncimggogaa.SP Go.Proofs.Ytddbnncimggogaa.StSeg Go.Proofs.Ytddbnncimggogaa.Pb
def foldC : List Seg → Int → Int → List Seg
  | [], _, _ => []
  | x :: l, lm, lc => if nextB x l && putB x lm lc then x :: foldC l x.f1.f0 x.f1.f1 else foldC l lm lc
theorem foldB_C : ∀ (s acc : List Seg) (lm lc : Int), foldB s acc lm lc = acc ++ foldC s lm lc
  | [], acc, _, _ => by simp [foldB, foldC]
  | x :: s, acc, lm, lc => by
    unfold foldB foldC
    split
    · rw [foldB_C s]; simp
    · rw [foldB_C s]
theorem foldC_mem : ∀ (s : List Seg) (lm lc : Int) (z : Seg), z ∈ foldC s lm lc → z ∈ s
  | [], _, _, z, h => h
  | x :: s, lm, lc, z, h => by
    unfold foldC at h
    split at h
    · rcases List.mem_cons.1 h with rfl | h
      · exact List.mem_cons_self ..
      · exact List.mem_cons_of_mem _ (foldC_mem s _ _ z h)
    · exact List.mem_cons_of_mem _ (foldC_mem s _ _ z h)
/-- Times rise, and each value is another one than the one ahead of it. -/
def Canon : List Seg → Int → Int → Prop
  | [], _, _ => True
  | x :: l, lm, lc => ¬ (x.f1.f0 = lm ∧ x.f1.f1 = lc) ∧ (∀ z ∈ l, x.f0 < z.f0) ∧ Canon l x.f1.f0 x.f1.f1
theorem canon_C : ∀ (s : List Seg) (lm lc : Int), Srt (ltB cmpS) s → Canon (foldC s lm lc) lm lc
  | [], _, _, _ => trivial
  | x :: s, lm, lc, hs => by
    have hx := List.pairwise_cons.1 hs
    have hle : ∀ z ∈ s, x.f0 ≤ z.f0 := fun z hz => by have := hx.1 z hz; rw [ltS] at this; simpa using this
    unfold foldC
    split
    · rename_i h
      rw [Bool.and_eq_true] at h
      refine ⟨?_, fun z hz => ?_, canon_C s _ _ hx.2⟩
      · have := h.2
        simp [putB] at this
        rintro ⟨q1, q2⟩
        rcases this with h2 | h2
        · exact h2 q1
        · exact h2 q2
      · have hz' := foldC_mem s _ _ z hz
        cases s with
        | nil => cases hz'
        | cons y s' =>
          have hn := h.1
          simp [nextB] at hn
          have h1 := hle y (List.mem_cons_self ..)
          rcases List.mem_cons.1 hz' with rfl | hz2
          · omega
          · have hy := (List.pairwise_cons.1 hx.2).1 z hz2
            rw [ltS] at hy
            simp at hy
            omega
    · exact canon_C s lm lc hx.2
theorem canon_F (xs : List Seg) : Canon (foldF xs) 0 0 := by
  unfold foldF
  rw [foldB_C]
  exact canon_C _ 0 0 (sortS_srt swoS xs)
def atP (v : Vec) (l : List Seg) (t : Int) : Vec := l.foldl (fun v x => if x.f0 ≤ t then x.f1 else v) v
theorem atP_late (v : Vec) (l : List Seg) (t : Int) (h : ∀ z ∈ l, t < z.f0) : atP v l t = v := by
  induction l generalizing v with
  | nil => rfl
  | cons x l ih =>
    unfold atP
    rw [List.foldl_cons, if_neg (by have := h x (List.mem_cons_self ..); omega)]
    exact ih v (fun z hz => h z (List.mem_cons_of_mem _ hz))
theorem atP_cons (v : Vec) (x : Seg) (l : List Seg) (t : Int) (h : x.f0 ≤ t) : atP v (x :: l) t = atP x.f1 l t := by
  unfold atP
  rw [List.foldl_cons, if_pos h]
theorem canon_one : ∀ (f g : List Seg) (v : Vec), Canon f v.f0 v.f1 → Canon g v.f0 v.f1 → (∀ x ∈ f, atP v g x.f0 = x.f1) → (∀ y ∈ g, atP v f y.f0 = y.f1) → f = g
  | [], [], _, _, _, _, _ => rfl
  | [], y :: g, v, _, hg, _, h2 => by
    have := h2 y (List.mem_cons_self ..)
    exact absurd ⟨by rw [← this]; rfl, by rw [← this]; rfl⟩ hg.1
  | x :: f, [], v, hf, _, h1, _ => by
    have := h1 x (List.mem_cons_self ..)
    exact absurd ⟨by rw [← this]; rfl, by rw [← this]; rfl⟩ hf.1
  | x :: f, y :: g, v, hf, hg, h1, h2 => by
    have hx := h1 x (List.mem_cons_self ..)
    have hy := h2 y (List.mem_cons_self ..)
    rcases Int.lt_trichotomy x.f0 y.f0 with c | c | c
    · rw [atP_late v (y :: g) x.f0 (fun z hz => by rcases List.mem_cons.1 hz with rfl | hz; exact c; exact Int.lt_trans c (hg.2.1 z hz))] at hx
      exact absurd ⟨by rw [← hx], by rw [← hx]⟩ hf.1
    · rw [atP_cons v y g x.f0 (by omega), atP_late y.f1 g x.f0 (fun z hz => by have := hg.2.1 z hz; omega)] at hx
      have hxy : x = y := by
        obtain ⟨x0, x1⟩ := x
        obtain ⟨y0, y1⟩ := y
        simp only at c hx
        rw [c, hx]
      subst hxy
      congr 1
      refine canon_one f g x.f1 hf.2.2 hg.2.2 (fun z hz => ?_) (fun z hz => ?_)
      · rw [← h1 z (List.mem_cons_of_mem _ hz), atP_cons v x g z.f0 (by have := hf.2.1 z hz; omega)]
      · rw [← h2 z (List.mem_cons_of_mem _ hz), atP_cons v x f z.f0 (by have := hg.2.1 z hz; omega)]
    · rw [atP_late v (x :: f) y.f0 (fun z hz => by rcases List.mem_cons.1 hz with rfl | hz; exact c; exact Int.lt_trans c (hf.2.1 z hz))] at hy
      exact absurd ⟨by rw [← hy], by rw [← hy]⟩ hg.1
theorem canon_self : ∀ (f : List Seg) (v : Vec), Canon f v.f0 v.f1 → ∀ x ∈ f, atP v f x.f0 = x.f1
  | [], _, _, x, h => by cases h
  | y :: f, v, hf, x, hx => by
    rcases List.mem_cons.1 hx with rfl | hx
    · rw [atP_cons v x f x.f0 (Int.le_refl _), atP_late x.f1 f x.f0 hf.2.1]
    · rw [atP_cons v y f x.f0 (by have := hf.2.1 x hx; omega)]
      exact canon_self f y.f1 hf.2.2 x hx
def vecB (u v : Vec) : Bool := u.f0 == v.f0 && u.f1 == v.f1
theorem vecB_iff (u v : Vec) : vecB u v = true ↔ u = v := by
  obtain ⟨a, b⟩ := u
  obtain ⟨c, d⟩ := v
  simp [vecB, S28.mk.injEq]
def alikeB (f g : List Seg) : Bool := f.all fun x => vecB (atF g x.f0) x.f1
theorem alike_same (a b : List Seg) : (alikeB (foldF a) (foldF b) && alikeB (foldF b) (foldF a)) = sameB (foldF a) (foldF b) := by
  rw [Bool.eq_iff_iff, Bool.and_eq_true, sameB_iff]
  unfold alikeB
  simp only [List.all_eq_true, vecB_iff]
  constructor
  · rintro ⟨h1, h2⟩
    exact canon_one _ _ z28 (canon_F a) (canon_F b) h1 h2
  · intro h
    rw [h]
    exact ⟨canon_self _ z28 (canon_F b), canon_self _ z28 (canon_F b)⟩
theorem sameB_self (a : List Seg) : sameB a a = true := (sameB_iff a a).2 rfl
theorem sameB_comm (a b : List Seg) : sameB a b = sameB b a := by
  rw [Bool.eq_iff_iff, sameB_iff, sameB_iff]
  exact ⟨fun h => h.symm, fun h => h.symm⟩
end Go.Proofs.Ytddbnncimggogaa.Lv
