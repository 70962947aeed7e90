/- Sorting so that what is alike keeps its order: rows, no program. -/
namespace Go.Proofs.Ytddbnncimggogaa.SP
variable {α : Type}
structure SWO (lt : α → α → Bool) : Prop where
  irr : ∀ x, lt x x = false
  neg : ∀ x y z, lt x y = false → lt y z = false → lt x z = false
  asy : ∀ x y, lt x y = true → lt y x = false
/-- Not after each other. -/
def Srt (lt : α → α → Bool) (l : List α) : Prop := l.Pairwise fun x y => lt y x = false
def eqv (lt : α → α → Bool) (x y : α) : Bool := !lt x y && !lt y x
def Stb (lt : α → α → Bool) (l m : List α) : Prop := l.length = m.length ∧ ∀ x, l.filter (eqv lt x) = m.filter (eqv lt x)
variable {lt : α → α → Bool}
theorem Stb.refl (l : List α) : Stb lt l l := ⟨rfl, fun _ => rfl⟩
theorem Stb.trans {l m n : List α} (h : Stb lt l m) (k : Stb lt m n) : Stb lt l n := ⟨h.1.trans k.1, fun x => (h.2 x).trans (k.2 x)⟩
theorem Stb.symm {l m : List α} (h : Stb lt l m) : Stb lt m l := ⟨h.1.symm, fun x => (h.2 x).symm⟩
theorem Stb.append {l m l' m' : List α} (h : Stb lt l m) (k : Stb lt l' m') : Stb lt (l ++ l') (m ++ m') :=
  ⟨by simp [h.1, k.1], fun x => by rw [List.filter_append, List.filter_append, h.2, k.2]⟩
theorem eqv_refl (o : SWO lt) (x : α) : eqv lt x x = true := by simp [eqv, o.irr]
theorem Stb.mem (o : SWO lt) {l m : List α} (h : Stb lt l m) (y : α) : y ∈ l ↔ y ∈ m := by
  have e := h.2 y
  constructor
  · intro hy
    have : y ∈ l.filter (eqv lt y) := List.mem_filter.2 ⟨hy, eqv_refl o y⟩
    rw [e] at this
    exact (List.mem_filter.1 this).1
  · intro hy
    have : y ∈ m.filter (eqv lt y) := List.mem_filter.2 ⟨hy, eqv_refl o y⟩
    rw [← e] at this
    exact (List.mem_filter.1 this).1
/-- Where each of the second is strictly ahead of each of the first, they may change places. -/
theorem Stb.cross (o : SWO lt) (l r : List α) (h : ∀ x ∈ l, ∀ y ∈ r, lt y x = true) : Stb lt (l ++ r) (r ++ l) := by
  refine ⟨by simp; omega, fun z => ?_⟩
  rw [List.filter_append, List.filter_append]
  by_cases hl : l.filter (eqv lt z) = []
  · rw [hl]; simp
  · by_cases hr : r.filter (eqv lt z) = []
    · rw [hr]; simp
    · exfalso
      obtain ⟨x, hx⟩ := List.exists_mem_of_ne_nil _ hl
      obtain ⟨y, hy⟩ := List.exists_mem_of_ne_nil _ hr
      have h1 := List.mem_filter.1 hx
      have h2 := List.mem_filter.1 hy
      have h3 := h x h1.1 y h2.1
      simp only [eqv, Bool.and_eq_true, Bool.not_eq_true'] at h1 h2
      have := o.neg y z x h2.2.2 h1.2.1
      rw [this] at h3
      cases h3
theorem Srt.nil : Srt lt ([] : List α) := List.Pairwise.nil
theorem Srt.one (x : α) : Srt lt [x] := List.pairwise_singleton _ _
theorem Srt.app {l m : List α} (h : Srt lt l) (k : Srt lt m) (c : ∀ x ∈ l, ∀ y ∈ m, lt y x = false) : Srt lt (l ++ m) := List.pairwise_append.2 ⟨h, k, c⟩
theorem Srt.left {l m : List α} (h : Srt lt (l ++ m)) : Srt lt l := (List.pairwise_append.1 h).1
theorem Srt.right {l m : List α} (h : Srt lt (l ++ m)) : Srt lt m := (List.pairwise_append.1 h).2.1
theorem Srt.mid {l m : List α} (h : Srt lt (l ++ m)) : ∀ x ∈ l, ∀ y ∈ m, lt y x = false := (List.pairwise_append.1 h).2.2
theorem srt_unique (o : SWO lt) : ∀ (l m : List α), Srt lt l → Srt lt m → Stb lt l m → l = m
  | [], m, _, _, h => by
    have := h.1
    simp at this
    exact (List.eq_nil_of_length_eq_zero this.symm).symm
  | x :: l, [], _, _, h => by have := h.1; simp at this
  | x :: l, y :: m, hl, hm, h => by
    have hl' := List.pairwise_cons.1 hl
    have hm' := List.pairwise_cons.1 hm
    have h1 : lt x y = false := by
      have : x ∈ y :: m := (h.mem o x).1 (by simp)
      rcases List.mem_cons.1 this with e | e
      · rw [e]; exact o.irr _
      · exact hm'.1 x e
    have h2 : lt y x = false := by
      have : y ∈ x :: l := (h.mem o y).2 (by simp)
      rcases List.mem_cons.1 this with e | e
      · rw [e]; exact o.irr _
      · exact hl'.1 y e
    have e := h.2 x
    rw [List.filter_cons, List.filter_cons, if_pos (eqv_refl o x), if_pos (by simp [eqv, h1, h2])] at e
    injection e with e1 _
    subst e1
    rw [srt_unique o l m hl'.2 hm'.2 ⟨by have := h.1; simpa using this, fun z => by
      have e := h.2 z
      rw [List.filter_cons, List.filter_cons] at e
      split at e
      · injection e
      · exact e⟩]
/-- The plain sort: each into its place behind what is alike. -/
def insS (lt : α → α → Bool) (x : α) : List α → List α
  | [] => [x]
  | y :: l => if lt x y then x :: y :: l else y :: insS lt x l
def sortS (lt : α → α → Bool) (l : List α) : List α := l.foldl (fun acc x => insS lt x acc) []
theorem mem_insS {x z : α} : ∀ {l : List α}, z ∈ insS lt x l ↔ z = x ∨ z ∈ l
  | [] => by simp [insS]
  | y :: l => by
    unfold insS
    split
    · simp
    · simp [mem_insS (l := l)]
      constructor
      · rintro (h | h | h) <;> simp [h]
      · rintro (h | h | h) <;> simp [h]
theorem srt_insS (o : SWO lt) (x : α) : ∀ (l : List α), Srt lt l → Srt lt (insS lt x l)
  | [], _ => Srt.one x
  | y :: l, h => by
    have h' := List.pairwise_cons.1 h
    unfold insS
    split
    · rename_i hlt
      refine List.pairwise_cons.2 ⟨fun z hz => ?_, h⟩
      rcases List.mem_cons.1 hz with rfl | hz
      · exact o.asy _ _ hlt
      · exact o.neg z y x (h'.1 z hz) (o.asy _ _ hlt)
    · rename_i hlt
      refine List.pairwise_cons.2 ⟨fun z hz => ?_, srt_insS o x l h'.2⟩
      rcases mem_insS.1 hz with rfl | hz
      · simpa using hlt
      · exact h'.1 z hz
theorem stb_insS (o : SWO lt) (x : α) : ∀ (l : List α), Srt lt l → Stb lt (l ++ [x]) (insS lt x l)
  | [], _ => Stb.refl _
  | y :: l, h => by
    have h' := List.pairwise_cons.1 h
    unfold insS
    split
    · rename_i hlt
      refine Stb.cross o (y :: l) [x] fun z hz u hu => ?_
      obtain rfl : u = x := by simpa using hu
      rcases List.mem_cons.1 hz with rfl | hz
      · exact hlt
      · cases e : lt u z
        · have := o.neg u z y e (h'.1 z hz)
          rw [this] at hlt; cases hlt
        · rfl
    · exact (Stb.refl [y]).append (stb_insS o x l h'.2)
theorem sortS_fold (o : SWO lt) : ∀ (l acc : List α), Srt lt acc → Srt lt (l.foldl (fun acc x => insS lt x acc) acc) ∧ Stb lt (acc ++ l) (l.foldl (fun acc x => insS lt x acc) acc)
  | [], acc, h => ⟨h, by simpa using Stb.refl acc⟩
  | x :: l, acc, h => by
    have ih := sortS_fold o l (insS lt x acc) (srt_insS o x acc h)
    refine ⟨ih.1, ?_⟩
    have : Stb lt (acc ++ x :: l) (insS lt x acc ++ l) := by
      have := (stb_insS o x acc h).append (Stb.refl (lt := lt) l)
      simpa using this
    exact this.trans ih.2
theorem sortS_srt (o : SWO lt) (l : List α) : Srt lt (sortS lt l) := (sortS_fold o l [] Srt.nil).1
theorem sortS_stb (o : SWO lt) (l : List α) : Stb lt l (sortS lt l) := by
  have h := (sortS_fold o l [] Srt.nil).2
  rw [List.nil_append] at h
  exact h
theorem sortS_of (o : SWO lt) {l m : List α} (h : Srt lt m) (k : Stb lt l m) : m = sortS lt l :=
  srt_unique o m _ h (sortS_srt o l) (k.symm.trans (sortS_stb o l))

/-! One step of the insertion. -/
theorem ins_swap {M2 : List α} {x y : α} (h : lt x y = true) (c : ∀ z ∈ M2, lt x z = true) : ∀ z ∈ y :: M2, lt x z = true := by
  intro z hz
  rcases List.mem_cons.1 hz with rfl | hz
  · exact h
  · exact c z hz
theorem ins_done (o : SWO lt) {P M1 M2 : List α} {x : α} (hs : Srt lt (M1 ++ M2)) (hk : Stb lt P (M1 ++ M2)) (c : ∀ z ∈ M2, lt x z = true) (e : ∀ z ∈ M1, lt x z = false) :
    Srt lt (M1 ++ x :: M2) ∧ Stb lt (P ++ [x]) (M1 ++ x :: M2) := by
  constructor
  · refine Srt.app hs.left (List.pairwise_cons.2 ⟨fun z hz => o.asy _ _ (c z hz), hs.right⟩) fun u hu v hv => ?_
    rcases List.mem_cons.1 hv with rfl | hv
    · exact e u hu
    · exact hs.mid u hu v hv
  · have h1 := hk.append (Stb.refl (lt := lt) [x])
    refine h1.trans ?_
    have h2 : Stb lt (M2 ++ [x]) ([x] ++ M2) := Stb.cross o M2 [x] fun u hu v hv => by
      obtain rfl : v = x := by simpa using hv
      exact c u hu
    have h3 := (Stb.refl (lt := lt) M1).append h2
    simpa using h3
theorem last_le (o : SWO lt) {M1 : List α} {x y : α} (hs : Srt lt (M1 ++ [y])) (h : lt x y = false) : ∀ z ∈ M1 ++ [y], lt x z = false := by
  intro z hz
  rcases List.mem_append.1 hz with hz | hz
  · exact o.neg x y z h (hs.mid z hz y (by simp))
  · obtain rfl : z = y := by simpa using hz
    exact h
/-! The merge: what is left is cut at l1, l2, what is right at r1, r2. -/
theorem merge_cut (o : SWO lt) {l1 l2 r1 r2 : List α} (hl : Srt lt (l1 ++ l2)) (hr : Srt lt (r1 ++ r2)) (c1 : ∀ x ∈ l1, ∀ y ∈ r2, lt y x = false) (c2 : ∀ x ∈ l2, ∀ y ∈ r1, lt y x = true)
    {m1 m2 : List α} (h1 : Srt lt m1) (h2 : Srt lt m2) (k1 : Stb lt (l1 ++ r1) m1) (k2 : Stb lt (l2 ++ r2) m2) : Srt lt (m1 ++ m2) ∧ Stb lt (l1 ++ l2 ++ (r1 ++ r2)) (m1 ++ m2) := by
  constructor
  · refine Srt.app h1 h2 fun x hx y hy => ?_
    have hx' := (k1.mem o x).2 hx
    have hy' := (k2.mem o y).2 hy
    rcases List.mem_append.1 hx' with hx' | hx' <;> rcases List.mem_append.1 hy' with hy' | hy'
    · exact hl.mid x hx' y hy'
    · exact c1 x hx' y hy'
    · exact o.asy _ _ (c2 y hy' x hx')
    · exact hr.mid x hx' y hy'
  · refine Stb.trans ?_ (k1.append k2)
    have h3 := ((Stb.refl (lt := lt) l1).append (Stb.cross o l2 r1 c2)).append (Stb.refl (lt := lt) r2)
    simpa [List.append_assoc] using h3
end Go.Proofs.Ytddbnncimggogaa.SP
