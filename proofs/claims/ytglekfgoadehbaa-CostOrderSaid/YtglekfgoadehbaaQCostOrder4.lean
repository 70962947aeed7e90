/- Texts of this claim, joined: Pcalc2, Pcalc3, Pcalc4, Pslot, Pslot2, Pspan, VFr, VIt, VLp, VXspan, Cspan, Cspan2, Pcalc6, Psum, Csum, CslLeg, VXslot, Cslot, VXcost, Ccost, Ptimes, Ctimes, Ccol. -/
import Derived.Test.YtglekfgoadehbaaQCostOrder3
import Derived.Test.YtglekfgoadehbaaQCostOrder2
import Derived.Test.YtglekfgoadehbaaProg
section
set_option linter.unusedSimpArgs false
set_option linter.unusedVariables false
/- calc's functions are the document's: plain. -/
namespace Go.Proofs.Ytglekfgoadehbaa.V
open Go Go.Proofs Go.Proofs.Ytglekfgoadehbaa.SP
theorem inR_iff (n : Int) : inR n = true ↔ -1125899906842624 ≤ n ∧ n ≤ 1125899906842624 := by unfold inR; simp
theorem mayV_iff (v : Vec) : mayV v = true ↔ (-1125899906842624 ≤ v.m ∧ v.m ≤ 1125899906842624) ∧ (-1125899906842624 ≤ v.c ∧ v.c ≤ 1125899906842624) := by
  unfold mayV; rw [Bool.and_eq_true, inR_iff, inR_iff]
theorem wr_id {n : Int} (h1 : -9223372036854775808 ≤ n) (h2 : n ≤ 9223372036854775807) : wr n = n := wrap_i64 n h1 h2
theorem atF_may {f : List Seg} (h : ∀ x ∈ f, inSeg x = true) (t : Int) : mayV (atF f t) = true := by
  unfold atF
  have : ∀ (l : List Seg) (v : Vec), (∀ x ∈ l, inSeg x = true) → mayV v = true → mayV (l.foldl (fun v x => if x.t ≤ t then x.v else v) v) = true := by
    intro l
    induction l with
    | nil => intro v _ hv; exact hv
    | cons x l ih =>
      intro v hl hv
      rw [List.foldl_cons]
      refine ih _ (fun y hy => hl y (by simp [hy])) ?_
      split
      · have := hl x (by simp)
        unfold inSeg at this
        rw [Bool.and_eq_true] at this
        exact this.2
      · exact hv
  exact this f v0 h rfl
theorem told1_all (x : Vec) (l : List Vec) (h : ∀ v ∈ l, mayV v = true) : told1 x l = toldF x := by
  unfold told1 toldF
  have : (x :: l).all mayV = mayV x := by
    rw [List.all_cons, List.all_eq_true.2 h, Bool.and_true]
  rw [this]
theorem add_one (a b : Vec) (ha : mayV a = true) (hb : mayV b = true) : add2 a b = oneR 0 a b := by
  have h1 := (mayV_iff a).1 ha
  have e : (⟨wr (v0.m + a.m), wr (v0.c + a.c)⟩ : Vec) = a := by
    rw [wr_id (by simp only [v0]; omega) (by simp only [v0]; omega), wr_id (by simp only [v0]; omega) (by simp only [v0]; omega)]
    simp [v0]
  unfold add2 addF oneR addR
  simp only
  rw [e, told1_all a [a] (by simp [ha])]
  have ht : toldF a = (a, 0) := by unfold toldF; rw [if_pos ha]
  rw [ht]
  simp only [if_true]
  unfold addF
  simp only
  rw [told1_all _ [b] (by simp [hb])]
  simp only [ha, hb, Bool.and_self, if_true]
  unfold toldF
  split <;> simp [addF]
theorem oneR_may (w : Int) (a b : Vec) (ha : mayV a = true) (hb : mayV b = true) (h : (oneR w a b).2 = 0) : mayV (oneR w a b).1 = true := by
  have h1 := (mayV_iff a).1 ha
  have h2 := (mayV_iff b).1 hb
  unfold oneR at h ⊢
  split
  · rename_i c
    rw [if_pos c] at h
    unfold addR toldF at h ⊢
    repeat' split
    all_goals simp_all
  · rename_i c
    rw [if_neg c] at h
    split
    · rename_i c2
      rw [if_pos c2] at h
      unfold subR addR toldF at h ⊢
      repeat' split
      all_goals simp_all
    · split
      · rw [mayV_iff]; simp only [minV]; omega
      · rw [mayV_iff]; simp only [maxV]; omega
/-! ### Values one behind the other -/
def withs (h : Int → Vec) (ts : List Int) (acc : List Seg) : List Seg := ts.foldl (fun f t => withF f t (h t)) acc
theorem lastW_snoc (f : List Seg) (x : Seg) : lastW (f ++ [x]) = x.v := by simp [lastW]
theorem canon_snoc : ∀ (f : List Seg) (l : Vec) (x : Seg), Canon f l → (∀ y ∈ f, y.t < x.t) → ¬ x.v = ((f.getLast?.map (·.v)).getD l) → Canon (f ++ [x]) l
  | [], l, x, _, _, h => ⟨by simpa using h, by simp, trivial⟩
  | y :: f, l, x, hf, ht, h => by
    refine ⟨hf.1, fun z hz => ?_, canon_snoc f y.v x hf.2.2 (fun z hz => ht z (by simp [hz])) ?_⟩
    · rcases List.mem_append.1 hz with hz | hz
      · exact hf.2.1 z hz
      · rw [List.mem_singleton.1 hz]; exact ht y (by simp)
    · cases f with
      | nil => simpa using h
      | cons z f =>
        obtain ⟨w, hw⟩ : ∃ w, (z :: f).getLast? = some w := ⟨_, List.getLast?_eq_some_getLast (by simp)⟩
        rw [List.getLast?_cons_cons, hw] at h
        rw [hw]; exact h
theorem with_spec (f : List Seg) (t : Int) (v : Vec) (hc : Canon f v0) (hl : ∀ x ∈ f, x.t < t) :
    Canon (withF f t v) v0 ∧ (∀ x ∈ withF f t v, x.t ≤ t) ∧ (∀ x ∈ withF f t v, x ∈ f ∨ x = ⟨t, v⟩) ∧ ∀ u, atF (withF f t v) u = if t ≤ u then v else atF f u := by
  have hat : ∀ u, t ≤ u → atF f u = lastW f := by
    intro u hu
    have : ∀ (l : List Seg) (v : Vec), (∀ x ∈ l, x.t < t) → l.foldl (fun v x => if x.t ≤ u then x.v else v) v = (l.getLast?.map (·.v)).getD v := by
      intro l
      induction l with
      | nil => intro v _; rfl
      | cons x l ih =>
        intro v hx
        rw [List.foldl_cons, if_pos (by have := hx x (by simp); omega), ih _ (fun y hy => hx y (by simp [hy]))]
        cases l with
        | nil => rfl
        | cons y l =>
          obtain ⟨w, hw⟩ : ∃ w, (y :: l).getLast? = some w := ⟨_, List.getLast?_eq_some_getLast (by simp)⟩
          rw [List.getLast?_cons_cons, hw]; rfl
    exact this f v0 hl
  unfold withF
  split
  · rename_i h
    refine ⟨hc, fun x hx => by have := hl x hx; omega, fun x hx => .inl hx, fun u => ?_⟩
    split
    · rename_i hu; rw [hat u hu, h]
    · rfl
  · rename_i h
    refine ⟨canon_snoc f v0 _ hc hl h, fun x hx => ?_, fun x hx => ?_, fun u => ?_⟩
    · rcases List.mem_append.1 hx with hx | hx
      · have := hl x hx; omega
      · rw [List.mem_singleton.1 hx]; exact Int.le_refl _
    · rcases List.mem_append.1 hx with hx | hx
      · exact .inl hx
      · exact .inr (List.mem_singleton.1 hx)
    · rw [atF_snoc]
def lastH (h : Int → Vec) (ts : List Int) (d : Vec) (u : Int) : Vec := ts.foldl (fun v t => if t ≤ u then h t else v) d
theorem withs_spec (h : Int → Vec) : ∀ (ts : List Int) (acc : List Seg), ts.Pairwise (· < ·) → Canon acc v0 → (∀ x ∈ acc, ∀ t ∈ ts, x.t < t) →
    Canon (withs h ts acc) v0 ∧ (∀ x ∈ withs h ts acc, x ∈ acc ∨ ∃ t ∈ ts, x = ⟨t, h t⟩) ∧ ∀ u, atF (withs h ts acc) u = lastH h ts (atF acc u) u
  | [], acc, _, hc, _ => ⟨hc, fun x hx => .inl hx, fun u => rfl⟩
  | t :: ts, acc, hu, hc, hl => by
    have hu2 := List.pairwise_cons.1 hu
    obtain ⟨c1, c2, c3, c4⟩ := with_spec acc t (h t) hc (fun x hx => hl x hx t (by simp))
    obtain ⟨d1, d2, d3⟩ := withs_spec h ts (withF acc t (h t)) hu2.2 c1 (fun x hx s hs => by have := c2 x hx; have := hu2.1 s hs; omega)
    refine ⟨d1, fun x hx => ?_, fun u => ?_⟩
    · rcases d2 x hx with hx | ⟨s, hs, e⟩
      · rcases c3 x hx with hx | e
        · exact .inl hx
        · exact .inr ⟨t, by simp, e⟩
      · exact .inr ⟨s, by simp [hs], e⟩
    · have := d3 u
      rw [c4] at this
      exact this
theorem lastH_at (h : Int → Vec) : ∀ (ts : List Int) (d : Vec) (u : Int), ts.Pairwise (· < ·) → (lastH h ts d u = d ∧ ∀ t ∈ ts, u < t) ∨ ∃ s ∈ ts, s ≤ u ∧ lastH h ts d u = h s ∧ ∀ t ∈ ts, t ≤ u → t ≤ s
  | [], d, u, _ => .inl ⟨rfl, by simp⟩
  | t :: ts, d, u, hu => by
    have hu2 := List.pairwise_cons.1 hu
    by_cases c : t ≤ u
    · rcases lastH_at h ts (h t) u hu2.2 with ⟨e, hn⟩ | ⟨s, hs, h1, h2, h3⟩
      · refine .inr ⟨t, by simp, c, ?_, fun z hz hzu => ?_⟩
        · unfold lastH; rw [List.foldl_cons, if_pos c]; exact e
        · rcases List.mem_cons.1 hz with rfl | hz
          · exact Int.le_refl _
          · have := hn z hz; omega
      · refine .inr ⟨s, by simp [hs], h1, ?_, fun z hz hzu => ?_⟩
        · unfold lastH; rw [List.foldl_cons, if_pos c]; exact h2
        · rcases List.mem_cons.1 hz with rfl | hz
          · have := hu2.1 s hs; omega
          · exact h3 z hz hzu
    · refine .inl ⟨?_, fun z hz => ?_⟩
      · have : ∀ (l : List Int), (∀ z ∈ l, u < z) → ∀ d, lastH h l d u = d := by
          intro l
          induction l with
          | nil => intro _ d; rfl
          | cons z l ih => intro hz d; unfold lastH; rw [List.foldl_cons, if_neg (by have := hz z (by simp); omega)]; exact ih (fun y hy => hz y (by simp [hy])) d
        exact this (t :: ts) (fun z hz => by rcases List.mem_cons.1 hz with rfl | hz; omega; have := hu2.1 z hz; omega) d
      · rcases List.mem_cons.1 hz with rfl | hz
        · omega
        · have := hu2.1 z hz; omega
theorem atF_between (f : List Seg) (s u : Int) (hsu : s ≤ u) (h : ∀ x ∈ f, ¬ (s < x.t ∧ x.t ≤ u)) : atF f u = atF f s := by
  unfold atF
  have : ∀ (l : List Seg), (∀ x ∈ l, ¬ (s < x.t ∧ x.t ≤ u)) → ∀ v, l.foldl (fun v x => if x.t ≤ u then x.v else v) v = l.foldl (fun v x => if x.t ≤ s then x.v else v) v := by
    intro l
    induction l with
    | nil => intro _ v; rfl
    | cons x l ih =>
      intro hx v
      have h1 := hx x (by simp)
      rw [List.foldl_cons, List.foldl_cons]
      have e : (if x.t ≤ u then x.v else v) = (if x.t ≤ s then x.v else v) := by
        by_cases c : x.t ≤ s
        · rw [if_pos c, if_pos (by omega)]
        · rw [if_neg c, if_neg (by omega)]
      rw [e]
      exact ih (fun y hy => hx y (by simp [hy])) _
  exact this f h v0
theorem atF_early (f : List Seg) (u : Int) (h : ∀ x ∈ f, u < x.t) : atF f u = v0 := atP_late v0 f u h
/-! ### The document's function of two -/
theorem doF_ok (w : Int) (f g : List Seg) : ∀ (ts : List Int) (acc : List Seg), (∀ t ∈ ts, (oneR w (atF f t) (atF g t)).2 = 0) → doF w f g ts acc = (withs (fun t => (oneR w (atF f t) (atF g t)).1) ts acc, 0)
  | [], acc, _ => rfl
  | t :: ts, acc, h => by
    unfold doF
    rw [if_pos (h t (by simp)), doF_ok w f g ts _ (fun s hs => h s (by simp [hs]))]
    rfl
theorem doF_bad (w : Int) (f g : List Seg) : ∀ (ts : List Int) (acc : List Seg), (∃ t ∈ ts, ¬ (oneR w (atF f t) (atF g t)).2 = 0) → doF w f g ts acc = ([], 10)
  | [], acc, h => by obtain ⟨t, ht, _⟩ := h; cases ht
  | t :: ts, acc, ⟨s, hs, he⟩ => by
    unfold doF
    split
    · rename_i h0
      refine doF_bad w f g ts _ ⟨s, ?_, he⟩
      rcases List.mem_cons.1 hs with rfl | hs
      · exact absurd h0 he
      · exact hs
    · rfl
theorem one_v0 (w : Int) : oneR w v0 v0 = (v0, 0) := by
  unfold oneR
  split
  · decide
  · split
    · decide
    · split <;> decide
theorem doR_law (w : Int) (f g : List Seg) (hf : mayF f = true) (hg : mayF g = true) :
    ((∀ t, (oneR w (atF f t) (atF g t)).2 = 0) ∧ (doR w f g).2 = 0 ∧ mayF (doR w f g).1 = true ∧ ∀ t, atF (doR w f g).1 t = (oneR w (atF f t) (atF g t)).1) ∨
    ((∃ t, ¬ (oneR w (atF f t) (atF g t)).2 = 0) ∧ doR w f g = ([], 10)) := by
  obtain ⟨cf, sf⟩ := (mayF_iff f).1 hf
  obtain ⟨cg, sg⟩ := (mayF_iff g).1 hg
  have hts := timesF_up (f.map (·.t) ++ g.map (·.t))
  have hmem : ∀ t, t ∈ timesF (f.map (·.t) ++ g.map (·.t)) ↔ (∃ x ∈ f, x.t = t) ∨ ∃ x ∈ g, x.t = t := fun t => by
    rw [mem_timesF, List.mem_append, List.mem_map, List.mem_map]
  obtain ⟨ts, hts0⟩ : ∃ ts, timesF (f.map (·.t) ++ g.map (·.t)) = ts := ⟨_, rfl⟩
  rw [hts0] at hts
  simp only [hts0] at hmem
  have hdo : doR w f g = doF w f g ts [] := by unfold doR; rw [hf, hg, hts0]; rfl
  -- at any time, as at the last time ahead of it
  have key : ∀ u, (atF f u = v0 ∧ atF g u = v0 ∧ ∀ t ∈ ts, u < t) ∨ ∃ s ∈ ts, s ≤ u ∧ atF f u = atF f s ∧ atF g u = atF g s ∧ ∀ t ∈ ts, t ≤ u → t ≤ s := fun u => by
    rcases lastH_at (fun _ => v0) ts v0 u hts with ⟨_, h⟩ | ⟨s, hs, h1, _, h2⟩
    · exact .inl ⟨atF_early f u (fun x hx => h x.t ((hmem _).2 (.inl ⟨x, hx, rfl⟩))), atF_early g u (fun x hx => h x.t ((hmem _).2 (.inr ⟨x, hx, rfl⟩))), h⟩
    · refine .inr ⟨s, hs, h1, atF_between f s u h1 (fun x hx hc => ?_), atF_between g s u h1 (fun x hx hc => ?_), h2⟩
      · have := h2 x.t ((hmem _).2 (.inl ⟨x, hx, rfl⟩)) hc.2; omega
      · have := h2 x.t ((hmem _).2 (.inr ⟨x, hx, rfl⟩)) hc.2; omega
  by_cases hall : ∀ t ∈ ts, (oneR w (atF f t) (atF g t)).2 = 0
  · left
    have hok := doF_ok w f g ts [] hall
    obtain ⟨d1, d2, d3⟩ := withs_spec (fun t => (oneR w (atF f t) (atF g t)).1) ts [] hts trivial (by simp)
    rw [hdo, hok]
    refine ⟨fun u => ?_, rfl, (mayF_iff _).2 ⟨d1, fun x hx => ?_⟩, fun u => ?_⟩
    · rcases key u with ⟨e1, e2, _⟩ | ⟨s, hs, _, e1, e2, _⟩
      · rw [e1, e2, one_v0]
      · rw [e1, e2]; exact hall s hs
    · rcases d2 x hx with h | ⟨t, ht, rfl⟩
      · cases h
      · have hm := oneR_may w _ _ (atF_may sf t) (atF_may sg t) (hall t ht)
        have hin : inR t = true := by
          rcases (hmem t).1 ht with ⟨y, hy, rfl⟩ | ⟨y, hy, rfl⟩
          · have := sf y hy; unfold inSeg at this; rw [Bool.and_eq_true] at this; exact this.1
          · have := sg y hy; unfold inSeg at this; rw [Bool.and_eq_true] at this; exact this.1
        unfold inSeg; rw [hin, hm]; rfl
    · show atF (withs (fun t => (oneR w (atF f t) (atF g t)).1) ts []) u = _
      rw [d3 u]
      rcases lastH_at (fun t => (oneR w (atF f t) (atF g t)).1) ts (atF [] u) u hts with ⟨e, hn⟩ | ⟨s, hs, h1, h2, h3⟩
      · rw [e]
        rcases key u with ⟨e1, e2, _⟩ | ⟨s, hs, h4, _⟩
        · rw [e1, e2, one_v0]; rfl
        · have := hn s hs; omega
      · rw [h2]
        rcases key u with ⟨_, _, hn⟩ | ⟨s', hs', h4, e1, e2, h5⟩
        · have := hn s hs; omega
        · have a := h3 s' hs' h4
          have b := h5 s hs h1
          have : s = s' := by omega
          subst this
          simp only [e1, e2]
  · right
    have hex : ∃ t ∈ ts, ¬ (oneR w (atF f t) (atF g t)).2 = 0 := by
      rcases Classical.em (∃ t ∈ ts, ¬ (oneR w (atF f t) (atF g t)).2 = 0) with h | h
      · exact h
      · exact absurd (fun t ht => Classical.byContradiction fun hn => h ⟨t, ht, hn⟩) hall
    obtain ⟨t, ht, he⟩ := hex
    exact ⟨⟨t, he⟩, by rw [hdo]; exact doF_bad w f g ts [] ⟨t, ht, he⟩⟩
/-! ### The program's way -/
theorem srt_self {xs : List Seg} (h : (xs.map (·.t)).Pairwise (· < ·)) : sortS (ltB cmpS) xs = xs := by
  refine (sortS_of swoS ?_ (Stb.refl _)).symm
  rw [List.pairwise_map] at h
  exact h.imp (fun {a b} hab => by rw [ltS]; simp; omega)
theorem fold_withs : ∀ (xs acc : List Seg), (xs.map (·.t)).Pairwise (· < ·) → foldB xs acc (lastW acc) = xs.foldl (fun f x => withF f x.t x.v) acc
  | [], acc, _ => rfl
  | x :: xs, acc, h => by
    rw [List.map_cons, List.pairwise_cons] at h
    have hn : nextB x xs = true := by
      cases xs with
      | nil => rfl
      | cons y xs => have := h.1 y.t (by simp); simp [nextB]; omega
    rw [foldB, if_pos hn, List.foldl_cons]
    have e : (putF acc (lastW acc) x).1 = withF acc x.t x.v ∧ (putF acc (lastW acc) x).2 = lastW (withF acc x.t x.v) := by
      unfold putF withF
      split
      · exact ⟨rfl, rfl⟩
      · exact ⟨by simp, (lastW_snoc _ _).symm⟩
    rw [e.1, e.2]
    exact fold_withs xs _ h.2
theorem rawJ_ok (jf : Vec → Vec → Vec × Int) : ∀ (L : List (Int × Vec × Vec)) (acc : List Seg), (∀ it ∈ L, (jf it.2.1 it.2.2).2 = 0) → rawJ jf L acc = (acc ++ L.map (fun it => ⟨it.1, (jf it.2.1 it.2.2).1⟩), 0)
  | [], acc, _ => by simp [rawJ]
  | it :: L, acc, h => by
    unfold rawJ
    rw [if_pos (h it (by simp)), rawJ_ok jf L _ (fun x hx => h x (by simp [hx]))]
    simp
theorem rawJ_bad (jf : Vec → Vec → Vec × Int) (he : ∀ a b, (jf a b).2 = 0 ∨ (jf a b).2 = 10) : ∀ (L : List (Int × Vec × Vec)) (acc : List Seg), (∃ it ∈ L, ¬ (jf it.2.1 it.2.2).2 = 0) → rawJ jf L acc = ([], 10)
  | [], acc, h => by obtain ⟨t, ht, _⟩ := h; cases ht
  | it :: L, acc, ⟨s, hs, h0⟩ => by
    unfold rawJ
    split
    · rename_i h1
      refine rawJ_bad jf he L _ ⟨s, ?_, h0⟩
      rcases List.mem_cons.1 hs with rfl | hs
      · exact absurd h1 h0
      · exact hs
    · rename_i h1
      rw [(he _ _).resolve_left h1]
theorem made_do (w : Int) (jf : Vec → Vec → Vec × Int) (hj : ∀ a b, mayV a = true → mayV b = true → jf a b = oneR w a b) (he : ∀ a b, (jf a b).2 = 0 ∨ (jf a b).2 = 10) (f g : List Seg) : madeF jf f g = doR w f g := by
  by_cases hfg : (mayF f && mayF g) = true
  case neg =>
    unfold madeF doR
    rw [if_neg hfg, if_neg hfg]
  rw [Bool.and_eq_true] at hfg
  obtain ⟨hf, hg⟩ := hfg
  obtain ⟨cf, sf⟩ := (mayF_iff f).1 hf
  obtain ⟨cg, sg⟩ := (mayF_iff g).1 hg
  have hb := both_times f g cf.up cg.up
  have hts := timesF_up (f.map (·.t) ++ g.map (·.t))
  have hmem : ∀ t, t ∈ timesF (f.map (·.t) ++ g.map (·.t)) → (∃ x ∈ f, x.t = t) ∨ ∃ x ∈ g, x.t = t := fun t => by
    rw [mem_timesF, List.mem_append, List.mem_map, List.mem_map]; exact id
  obtain ⟨ts, hts0⟩ : ∃ ts, timesF (f.map (·.t) ++ g.map (·.t)) = ts := ⟨_, rfl⟩
  rw [hts0] at hb hts
  simp only [hts0] at hmem
  have hjt : ∀ t, jf (atF f t) (atF g t) = oneR w (atF f t) (atF g t) := fun t => hj _ _ (atF_may sf t) (atF_may sg t)
  have hdo : doR w f g = doF w f g ts [] := by unfold doR; rw [hf, hg, hts0]; rfl
  have hmade : madeF jf f g = if (rawJ jf (bothF f g v0 v0) []).2 = 0 then ofF (rawJ jf (bothF f g v0 v0) []).1 else ([], (rawJ jf (bothF f g v0 v0) []).2) := by unfold madeF; rw [hf, hg]; rfl
  rw [hdo, hmade, hb]
  by_cases hall : ∀ t ∈ ts, (oneR w (atF f t) (atF g t)).2 = 0
  · rw [rawJ_ok jf _ [] (fun it hit => by obtain ⟨t, ht, rfl⟩ := List.mem_map.1 hit; rw [show (jf (atF f t) (atF g t)).2 = _ from by rw [hjt]]; exact hall t ht), if_pos rfl, doF_ok w f g ts [] hall]
    simp only [List.nil_append, List.map_map]
    have e : (ts.map ((fun it : Int × Vec × Vec => (⟨it.1, (jf it.2.1 it.2.2).1⟩ : Seg)) ∘ fun t => (t, atF f t, atF g t))) = ts.map (fun t => (⟨t, (oneR w (atF f t) (atF g t)).1⟩ : Seg)) := List.map_congr_left (fun t _ => by simp [hjt])
    rw [e]
    have hup : ((ts.map (fun t => (⟨t, (oneR w (atF f t) (atF g t)).1⟩ : Seg))).map (·.t)).Pairwise (· < ·) := by
      rw [List.map_map]
      have : ((fun x : Seg => x.t) ∘ fun t => (⟨t, (oneR w (atF f t) (atF g t)).1⟩ : Seg)) = id := rfl
      rw [this, List.map_id]; exact hts
    have hin : (ts.map (fun t => (⟨t, (oneR w (atF f t) (atF g t)).1⟩ : Seg))).all inSeg = true := by
      rw [List.all_eq_true]
      intro x hx
      obtain ⟨t, ht, rfl⟩ := List.mem_map.1 hx
      have hm := oneR_may w _ _ (atF_may sf t) (atF_may sg t) (hall t ht)
      have hr : inR t = true := by
        rcases hmem t ht with ⟨y, hy, rfl⟩ | ⟨y, hy, rfl⟩
        · have := sf y hy; unfold inSeg at this; rw [Bool.and_eq_true] at this; exact this.1
        · have := sg y hy; unfold inSeg at this; rw [Bool.and_eq_true] at this; exact this.1
      unfold inSeg; rw [hr, hm]; rfl
    unfold ofF
    rw [if_pos hin]
    have hfold : foldF (ts.map (fun t => (⟨t, (oneR w (atF f t) (atF g t)).1⟩ : Seg))) = withs (fun t => (oneR w (atF f t) (atF g t)).1) ts [] := by
      unfold foldF
      rw [srt_self hup]
      have := fold_withs (ts.map (fun t => (⟨t, (oneR w (atF f t) (atF g t)).1⟩ : Seg))) [] hup
      rw [show lastW [] = v0 from rfl] at this
      rw [this, List.foldl_map]; rfl
    rw [hfold]
  · have hex : ∃ t ∈ ts, ¬ (oneR w (atF f t) (atF g t)).2 = 0 := by
      rcases Classical.em (∃ t ∈ ts, ¬ (oneR w (atF f t) (atF g t)).2 = 0) with h | h
      · exact h
      · exact absurd (fun t ht => Classical.byContradiction fun hn => h ⟨t, ht, hn⟩) hall
    obtain ⟨t, ht, he0⟩ := hex
    rw [rawJ_bad jf he _ [] ⟨(t, atF f t, atF g t), List.mem_map.2 ⟨t, ht, rfl⟩, by simp only; rw [hjt]; exact he0⟩, if_neg (by decide), doF_bad w f g ts [] ⟨t, ht, he0⟩]
end Go.Proofs.Ytglekfgoadehbaa.V
end
section
set_option linter.unusedSimpArgs false
set_option linter.unusedVariables false
/- calc.LE, Add are the document's; what being at most says: plain. -/
namespace Go.Proofs.Ytglekfgoadehbaa.V
open Go Go.Proofs Go.Proofs.Ytglekfgoadehbaa.SP
theorem told1_err (x : Vec) (l : List Vec) : (told1 x l).2 = 0 ∨ (told1 x l).2 = 10 := by unfold told1; split <;> simp
theorem addF_err : ∀ (l : List Vec) (s : Vec), (addF l s).2 = 0 ∨ (addF l s).2 = 10
  | [], s => .inl rfl
  | v :: r, s => by
    unfold addF
    simp only
    split
    · exact addF_err r _
    · rename_i h; exact .inr ((told1_err _ _).resolve_left h)
theorem add2_err (a b : Vec) : (add2 a b).2 = 0 ∨ (add2 a b).2 = 10 := addF_err _ _
theorem add_do (f g : List Seg) : madeF add2 f g = doR 0 f g := made_do 0 add2 add_one add2_err f g
/-! ### Being at most -/
end Go.Proofs.Ytglekfgoadehbaa.V
end
section
set_option linter.unusedSimpArgs false
set_option linter.unusedVariables false
/- Sums and differences, one against the other: plain. -/
namespace Go.Proofs.Ytglekfgoadehbaa.V
open Go Go.Proofs Go.Proofs.Ytglekfgoadehbaa.SP
theorem may_at {f : List Seg} (h : mayF f = true) (t : Int) : mayV (atF f t) = true := atF_may ((mayF_iff f).1 h).2 t
theorem may_nil : mayF [] = true := rfl
theorem pair_eq {α : Type} {p : α × Int} {a : α} {b : Int} (h1 : p.1 = a) (h2 : p.2 = b) : p = (a, b) := by cases p; simp_all
theorem doR_may {w : Int} {f g : List Seg} (h : (doR w f g).2 = 0) : mayF f = true ∧ mayF g = true ∧ mayF (doR w f g).1 = true ∧ ∀ t, oneR w (atF f t) (atF g t) = (atF (doR w f g).1 t, 0) := by
  by_cases hm : (mayF f && mayF g) = true
  · have h2 := hm
    rw [Bool.and_eq_true] at h2
    rcases doR_law w f g h2.1 h2.2 with ⟨a1, _, a3, a4⟩ | ⟨_, h3⟩
    · exact ⟨h2.1, h2.2, a3, fun t => pair_eq (a4 t).symm (a1 t)⟩
    · rw [h3] at h; cases h
  · unfold doR at h; rw [if_neg hm] at h; cases h
theorem add_val (a b : Vec) (ha : mayV a = true) (hb : mayV b = true) : oneR 0 a b = toldF ⟨a.m + b.m, a.c + b.c⟩ := by
  have h1 := (mayV_iff a).1 ha
  have h2 := (mayV_iff b).1 hb
  unfold oneR addR
  rw [if_pos rfl, if_pos (by rw [ha, hb]; rfl), wr_id (by omega) (by omega), wr_id (by omega) (by omega)]
theorem told_ok {v u : Vec} (h : toldF v = (u, 0)) : v = u ∧ mayV u = true := by
  unfold toldF at h
  split at h
  · rename_i hv; cases h; exact ⟨rfl, hv⟩
  · cases h
/-! ### At most -/
end Go.Proofs.Ytglekfgoadehbaa.V
end
section
set_option linter.unusedSimpArgs false
set_option linter.unusedVariables false
/- Begins, in plain Lean: what the package slot's functions compute. -/
namespace Go.Proofs.Ytglekfgoadehbaa.V
open Go Go.Proofs
def sumD : List Leg → Int
  | [] => 0
  | x :: r => x.d + sumD r
def badD (x : Leg) : Bool := decide (x.d < 1) || decide (4096 < x.d)
def lengthF (l : List Leg) : Int × Int := if l.any badD || decide (l.length = 0) || decide (16 < l.length) then (0, 2) else (sumD l, 0)
def farF (t : Int) : Bool := decide (t < -1099511627776) || decide (1099511627776 < t)
def checkF (f : List Seg) (w : Vec) (l : List Leg) : Int × Int :=
  if mayF f then (if (lengthF l).2 ≠ 0 ∨ w.c ≤ w.m ∨ 4096 < w.c - w.m then (0, 2) else if farF w.m || farF w.c || l.any (fun x => !mayV x.v) then (0, 10) else ((lengthF l).1, 0)) else (0, 5)
def leW (a b : Vec) : Bool := decide (a.m ≤ b.m) && decide (a.c ≤ b.c)
def lowGo (w v : Vec) : List Seg → Int → Vec → List Vec
  | [], p, u => if leW v u then [] else [⟨p, w.c⟩]
  | x :: r, p, u => if x.t ≤ w.m ∨ w.c ≤ x.t then lowGo w v r p u else if leW v u then lowGo w v r x.t x.v else ⟨p, x.t⟩ :: lowGo w v r x.t x.v
def lowF (f : List Seg) (w v : Vec) : List Vec := lowGo w v f w.m (atF f w.m)
def cutW (x w : Vec) : List Vec := (if w.m < min w.c x.m then [⟨w.m, min w.c x.m⟩] else []) ++ (if max w.m x.c < w.c then [⟨max w.m x.c, w.c⟩] else [])
def withoutF : List Vec → Vec → List Vec
  | [], _ => []
  | w :: r, x => cutW x w ++ withoutF r x
def shiftW (d a : Int) (b : Vec) : Vec := ⟨b.m - d + 1 - a, b.c - a⟩
def cutsF (d a : Int) : List Vec → List Vec → List Vec
  | [], out => out
  | b :: r, out => cutsF d a r (withoutF out (shiftW d a b))
def legsF (f : List Seg) (w : Vec) : List Leg → Int → List Vec → List Vec
  | [], _, out => out
  | x :: r, a, out => legsF f w r (a + x.d) (cutsF x.d a (lowF f w x.v) out)
def beginsF (f : List Seg) (w : Vec) (l : List Leg) : List Vec × Int :=
  if (checkF f w l).2 ≠ 0 ∨ w.c - w.m < (checkF f w l).1 then ([], (checkF f w l).2) else (legsF f w l 0 [⟨w.m, w.c - (checkF f w l).1 + 1⟩], 0)
theorem sumD_take {l : List Leg} {k : Nat} (h : k < l.length) : sumD (l.take (k + 1)) = sumD (l.take k) + l[k].d := by
  induction l generalizing k with
  | nil => simp at h
  | cons x r ih =>
    cases k with
    | zero => simp [sumD]
    | succ k => simp only [List.take_succ_cons, sumD, List.getElem_cons_succ]; rw [ih (by simpa using h)]; omega
theorem withoutF_app (a b : List Vec) (x : Vec) : withoutF (a ++ b) x = withoutF a x ++ withoutF b x := by
  induction a with
  | nil => rfl
  | cons w r ih => simp only [List.cons_append, withoutF, ih, List.append_assoc]
theorem withoutF_take {l : List Vec} {k : Nat} (h : k < l.length) (x : Vec) : withoutF (l.take (k + 1)) x = withoutF (l.take k) x ++ cutW x l[k] := by
  rw [List.take_add_one, List.getElem?_eq_getElem h, withoutF_app]; simp [withoutF]
def Rows (lo hi : Int) : List Vec → Prop
  | [] => True
  | w :: r => lo ≤ w.m ∧ w.m < w.c ∧ w.c ≤ hi ∧ Rows w.c hi r
theorem Rows.mono {lo lo' hi : Int} (h : lo' ≤ lo) : ∀ {l : List Vec}, Rows lo hi l → Rows lo' hi l
  | [], _ => trivial
  | w :: r, ⟨a, b⟩ => ⟨by omega, b⟩
theorem Rows.len {hi : Int} : ∀ {l : List Vec} {lo : Int}, Rows lo hi l → lo ≤ hi → (l.length : Int) ≤ hi - lo
  | [], lo, _, h => by simp; omega
  | w :: r, lo, ⟨a, b, c, d⟩, h => by
    have := Rows.len d c
    simp only [List.length_cons]; omega
theorem Rows.app {mid hi : Int} : ∀ {a : List Vec} {lo : Int} {b : List Vec}, Rows lo mid a → Rows mid hi b → lo ≤ mid → mid ≤ hi → Rows lo hi (a ++ b)
  | [], lo, b, _, h, h1, _ => h.mono h1
  | w :: r, lo, b, ⟨a1, a2, a3, a4⟩, h, h1, h2 => ⟨a1, a2, by omega, Rows.app a4 h a3 h2⟩
theorem cutW_rows (x w : Vec) (h : w.m < w.c) (hx : x.m ≤ x.c) : Rows w.m w.c (cutW x w) := by
  simp only [cutW, Int.min_def, Int.max_def]
  (repeat' split) <;> simp only [Rows, List.nil_append, List.cons_append, and_true] <;> omega
theorem Rows.without {x : Vec} (hx : x.m ≤ x.c) {hi : Int} : ∀ {l : List Vec} {lo : Int}, Rows lo hi l → Rows lo hi (withoutF l x)
  | [], _, _ => trivial
  | w :: r, lo, ⟨a, b, c, d⟩ => by
    have h1 : Rows lo w.c (cutW x w) := (cutW_rows x w b hx).mono a
    exact Rows.app h1 (Rows.without hx d) (by omega) c
theorem lowGo_in {w v : Vec} : ∀ (r : List Seg) (p : Int) (u : Vec), w.m ≤ p → p ≤ w.c → ∀ b ∈ lowGo w v r p u, w.m ≤ b.m ∧ b.c ≤ w.c ∧ w.m ≤ b.c ∧ b.m ≤ w.c
  | [], p, u, h1, h2, b, hb => by
    unfold lowGo at hb
    split at hb
    · cases hb
    · simp at hb; subst hb; simp only; omega
  | x :: r, p, u, h1, h2, b, hb => by
    unfold lowGo at hb
    split at hb
    · exact lowGo_in r p u h1 h2 b hb
    · split at hb
      · exact lowGo_in r x.t x.v (by omega) (by omega) b hb
      · rcases List.mem_cons.1 hb with rfl | hb
        · simp only; omega
        · exact lowGo_in r x.t x.v (by omega) (by omega) b hb
theorem lowF_in {f : List Seg} {w v : Vec} (h : w.m ≤ w.c) : ∀ b ∈ lowF f w v, w.m ≤ b.m ∧ b.c ≤ w.c ∧ w.m ≤ b.c ∧ b.m ≤ w.c := lowGo_in f _ _ (Int.le_refl _) h
end Go.Proofs.Ytglekfgoadehbaa.V
end
section
set_option linter.unusedSimpArgs false
set_option linter.unusedVariables false
/- Begins of legs that are cut in two, and of legs with one of nothing ahead: plain. -/
namespace Go.Proofs.Ytglekfgoadehbaa.V
open Go Go.Proofs
def RowsG (lo hi : Int) : List Vec → Prop
  | [] => True
  | w :: r => lo ≤ w.m ∧ w.m < w.c ∧ w.c ≤ hi ∧ RowsG (w.c + 1) hi r
def inW (w : Vec) (t : Int) : Prop := w.m ≤ t ∧ t < w.c
def memW (l : List Vec) (t : Int) : Prop := ∃ w ∈ l, inW w t
theorem memW_nil (t : Int) : memW [] t ↔ False := by simp [memW]
theorem memW_cons (w : Vec) (r : List Vec) (t : Int) : memW (w :: r) t ↔ inW w t ∨ memW r t := by simp [memW]
theorem memW_app (a b : List Vec) (t : Int) : memW (a ++ b) t ↔ memW a t ∨ memW b t := by
  induction a with
  | nil => simp [memW_nil]
  | cons w r ih => rw [List.cons_append, memW_cons, memW_cons, ih, or_assoc]
theorem RowsG.mono {lo lo' hi : Int} (h : lo' ≤ lo) : ∀ {l : List Vec}, RowsG lo hi l → RowsG lo' hi l
  | [], _ => trivial
  | w :: r, ⟨a, b⟩ => ⟨by omega, b⟩
theorem RowsG.rows {hi : Int} : ∀ {l : List Vec} {lo : Int}, RowsG lo hi l → Rows lo hi l
  | [], _, _ => trivial
  | w :: r, _, ⟨a, b, c, d⟩ => ⟨a, b, c, d.rows.mono (by omega)⟩
theorem RowsG.low {hi t : Int} : ∀ {l : List Vec} {lo : Int}, RowsG lo hi l → memW l t → lo ≤ t
  | [], _, _, h => absurd h (by simp [memW])
  | w :: r, lo, ⟨a, b, c, d⟩, h => by
    rcases (memW_cons _ _ _).1 h with h | h
    · have := h.1; omega
    · have := d.low h; omega
theorem RowsG.head {hi t lo : Int} {w : Vec} {r : List Vec} (h : RowsG lo hi (w :: r)) (hm : memW (w :: r) t) : w.m ≤ t := RowsG.low (l := w :: r) (lo := w.m) (hi := hi) ⟨Int.le_refl _, h.2⟩ hm
theorem RowsG.app {mid hi : Int} : ∀ {a : List Vec} {lo : Int} {b : List Vec}, RowsG lo mid a → RowsG (mid + 1) hi b → lo ≤ mid + 1 → mid ≤ hi → RowsG lo hi (a ++ b)
  | [], _, _, _, h, h1, _ => h.mono h1
  | w :: r, lo, b, ⟨a1, a2, a3, a4⟩, h, h1, h2 => ⟨a1, a2, by omega, RowsG.app a4 h (by omega) h2⟩
theorem cutW_G (x w : Vec) (h : w.m < w.c) (hx : x.m < x.c) : RowsG w.m w.c (cutW x w) := by
  simp only [cutW, Int.min_def, Int.max_def]
  (repeat' split) <;> simp only [RowsG, List.nil_append, List.cons_append, and_true] <;> omega
theorem RowsG.without {x : Vec} (hx : x.m < x.c) {hi : Int} : ∀ {l : List Vec} {lo : Int}, RowsG lo hi l → RowsG lo hi (withoutF l x)
  | [], _, _ => trivial
  | w :: r, lo, ⟨a, b, c, d⟩ => RowsG.app ((cutW_G x w b hx).mono a) (RowsG.without hx d) (by omega) c
theorem memW_if (c : Prop) [Decidable c] (w : Vec) (t : Int) : memW (if c then [w] else []) t ↔ c ∧ inW w t := by
  split <;> simp [*, memW]
theorem memW_cut (x w : Vec) (t : Int) : memW (cutW x w) t ↔ inW w t ∧ ¬ inW x t := by
  simp only [cutW, memW_app, memW_if, inW]
  omega
theorem memW_without (x : Vec) (t : Int) : ∀ (l : List Vec), memW (withoutF l x) t ↔ memW l t ∧ ¬ inW x t
  | [] => by simp [withoutF, memW_nil]
  | w :: r => by
    rw [withoutF, memW_app, memW_cut, memW_without x t r, memW_cons]
    constructor
    · rintro (⟨a, b⟩ | ⟨a, b⟩)
      · exact ⟨.inl a, b⟩
      · exact ⟨.inr a, b⟩
    · rintro ⟨a | a, b⟩
      · exact .inl ⟨a, b⟩
      · exact .inr ⟨a, b⟩
theorem memW_cuts (d a t : Int) : ∀ (bads out : List Vec), memW (cutsF d a bads out) t ↔ memW out t ∧ ∀ b ∈ bads, ¬ inW (shiftW d a b) t
  | [], out => by simp [cutsF]
  | b :: r, out => by
    rw [cutsF, memW_cuts d a t r, memW_without]
    simp only [List.mem_cons, forall_eq_or_imp, and_assoc]
theorem cuts_G {d a lo hi : Int} (hd : 1 ≤ d) : ∀ (bads : List Vec) (out : List Vec), (∀ b ∈ bads, b.m < b.c) → RowsG lo hi out → RowsG lo hi (cutsF d a bads out)
  | [], out, _, h => h
  | b :: r, out, hb, h => cuts_G hd r _ (fun x hx => hb x (by simp [hx])) (h.without (by have := hb b (by simp); simp only [shiftW]; omega))
def okL (f : List Seg) (w : Vec) : List Leg → Int → Int → Prop
  | [], _, _ => True
  | x :: r, a, t => (∀ b ∈ lowF f w x.v, ¬ inW (shiftW x.d a b) t) ∧ okL f w r (a + x.d) t
theorem memW_legs (f : List Seg) (w : Vec) (t : Int) : ∀ (l : List Leg) (a : Int) (out : List Vec), memW (legsF f w l a out) t ↔ memW out t ∧ okL f w l a t
  | [], a, out => by simp [legsF, okL]
  | x :: r, a, out => by rw [legsF, memW_legs f w t r, memW_cuts, okL, and_assoc]
theorem legs_G {f : List Seg} {w : Vec} (hf : ∀ v, ∀ b ∈ lowF f w v, b.m < b.c) {lo hi : Int} : ∀ (l : List Leg) (a : Int) (out : List Vec), (∀ x ∈ l, 1 ≤ x.d) → RowsG lo hi out → RowsG lo hi (legsF f w l a out)
  | [], _, _, _, h => h
  | x :: r, a, out, hl, h => legs_G hf r _ _ (fun y hy => hl y (by simp [hy])) (cuts_G (hl x (by simp)) _ _ (hf x.v) h)
theorem lowGo_ne {w v : Vec} (hw : w.m < w.c) : ∀ (r : List Seg) (p : Int) (u l : Vec), Canon r l → (∀ z ∈ r, p < z.t ∨ z.t ≤ w.m) → p < w.c → ∀ b ∈ lowGo w v r p u, b.m < b.c
  | [], p, u, _, _, _, h, b, hb => by
    unfold lowGo at hb
    split at hb
    · cases hb
    · simp at hb; subst hb; exact h
  | x :: r, p, u, l, hc, hz, h, b, hb => by
    unfold lowGo at hb
    split at hb
    · exact lowGo_ne hw r p u x.v hc.2.2 (fun z h => hz z (by simp [h])) h b hb
    · rename_i hs
      have hx := hz x (by simp)
      have hr := lowGo_ne (v := v) hw r x.t x.v x.v hc.2.2 (fun z h => .inl (hc.2.1 z h)) (by omega) b
      split at hb
      · exact hr hb
      · rcases List.mem_cons.1 hb with rfl | hb
        · simp only; omega
        · exact hr hb
theorem lowF_ne {f : List Seg} (hf : mayF f = true) {w : Vec} (hw : w.m < w.c) (v : Vec) : ∀ b ∈ lowF f w v, b.m < b.c :=
  lowGo_ne hw f w.m _ v0 ((mayF_iff f).1 hf).1 (fun z _ => by omega) hw
structure OkB (f : List Seg) (w : Vec) (l : List Leg) : Prop where
  may : mayF f = true
  win : w.m < w.c
  span : w.c - w.m ≤ 4096
  from_ : farF w.m = false
  to_ : farF w.c = false
  vs : l.any (fun x => !mayV x.v) = false
  ds : l.any badD = false
  len : 0 < l.length ∧ l.length ≤ 16
theorem check_ok {f : List Seg} {w : Vec} {l : List Leg} : (checkF f w l).2 = 0 ↔ OkB f w l := by
  constructor
  · intro h
    unfold checkF at h
    split at h
    · rename_i hm
      split at h
      · cases h
      · rename_i h1
        split at h
        · cases h
        · rename_i h2
          simp only [Bool.or_eq_true, not_or, Bool.not_eq_true] at h2
          have hl : (lengthF l).2 = 0 := by omega
          unfold lengthF at hl
          split at hl
          · cases hl
          · rename_i h3
            simp only [Bool.or_eq_true, not_or, Bool.not_eq_true, decide_eq_false_iff_not] at h3
            exact ⟨hm, by omega, by omega, h2.1.1, h2.1.2, h2.2, h3.1.1, by omega⟩
    · cases h
  · intro h
    have hl : lengthF l = (sumD l, 0) := by
      unfold lengthF
      rw [if_neg]
      have := h.len
      rw [h.ds]; simp only [Bool.false_or, Bool.or_eq_true, decide_eq_true_eq]; omega
    unfold checkF
    rw [if_pos h.may, hl, if_neg (by have := h.win; have := h.span; simp; omega), h.from_, h.to_, h.vs]
    rfl
theorem check_1 {f : List Seg} {w : Vec} {l : List Leg} (h : OkB f w l) : checkF f w l = (sumD l, 0) := by
  have hl : lengthF l = (sumD l, 0) := by
    unfold lengthF
    rw [if_neg]
    have := h.len
    rw [h.ds]; simp only [Bool.false_or, Bool.or_eq_true, decide_eq_true_eq]; omega
  unfold checkF
  rw [if_pos h.may, hl, if_neg (by have := h.win; have := h.span; simp; omega), h.from_, h.to_, h.vs]
  rfl
theorem begins_err (f : List Seg) (w : Vec) (l : List Leg) : (beginsF f w l).2 = (checkF f w l).2 := by
  unfold beginsF
  split
  · rfl
  · rename_i h
    simp only at h ⊢
    omega
theorem OkB.pos {f : List Seg} {w : Vec} {l : List Leg} (h : OkB f w l) : ∀ x ∈ l, 1 ≤ x.d ∧ x.d ≤ 4096 := fun x hx => by
  have := List.any_eq_false.1 h.ds x hx
  simp [badD] at this
  omega
theorem begins_is {f : List Seg} {w : Vec} {l : List Leg} (h : OkB f w l) : RowsG w.m (w.c + 1) (beginsF f w l).1 ∧ ∀ t, memW (beginsF f w l).1 t ↔ w.m ≤ t ∧ t + sumD l ≤ w.c ∧ okL f w l 0 t := by
  have hs : 0 ≤ sumD l := by
    have := h.pos
    clear h
    induction l with
    | nil => simp [sumD]
    | cons x r ih => have := ih (fun y hy => this y (by simp [hy])); have := this; simp only [sumD]; have := ‹∀ y ∈ x :: r, _› x (by simp); omega
  unfold beginsF
  rw [check_1 h]
  by_cases hn : w.c - w.m < sumD l
  · rw [if_pos (.inr hn)]
    refine ⟨trivial, fun t => ?_⟩
    rw [memW_nil]
    constructor
    · exact False.elim
    · intro ⟨a, b, _⟩; omega
  · rw [if_neg (by simp only; omega)]
    have hw := h.win
    refine ⟨legs_G (fun v => lowF_ne h.may hw v) l 0 _ (fun x hx => (h.pos x hx).1) ⟨Int.le_refl _, by simp only; omega, by simp only; omega, trivial⟩, fun t => ?_⟩
    rw [memW_legs, memW_cons, memW_nil]
    simp only [inW, or_false]
    constructor
    · intro ⟨⟨a, b⟩, c⟩; exact ⟨a, by omega, c⟩
    · intro ⟨a, b, c⟩; exact ⟨⟨a, by omega⟩, c⟩
end Go.Proofs.Ytglekfgoadehbaa.V
end
section
set_option linter.unusedSimpArgs false
set_option linter.unusedVariables false
/- Step functions in windows, in plain Lean. -/
namespace Go.Proofs.Ytglekfgoadehbaa.V
open Go Go.Proofs
def runsGo (a z : Int) : List Seg → Int → Vec → List (Vec × Int)
  | [], p, u => [(u, z - p)]
  | x :: r, p, u => if x.t ≤ a ∨ z ≤ x.t then runsGo a z r p u else (u, x.t - p) :: runsGo a z r x.t x.v
def runsF (f : List Seg) (a z : Int) : List (Vec × Int) := runsGo a z f a (atF f a)
def insW (a z : Int) (r : List Seg) : List Seg := r.filter fun x => decide (a < x.t) && decide (x.t < z)
theorem runsGo_ins (a z : Int) : ∀ (r : List Seg) (p : Int) (u : Vec), runsGo a z r p u = runsGo a z (insW a z r) p u
  | [], _, _ => rfl
  | x :: r, p, u => by
    unfold insW
    by_cases h : x.t ≤ a ∨ z ≤ x.t
    · rw [List.filter_cons_of_neg (by simp; omega), runsGo, if_pos h]; exact runsGo_ins a z r p u
    · rw [List.filter_cons_of_pos (by simp; omega), runsGo, runsGo, if_neg h, if_neg h]; congr 1; exact runsGo_ins a z r x.t x.v
theorem lowGo_ins (w v : Vec) : ∀ (r : List Seg) (p : Int) (u : Vec), lowGo w v r p u = lowGo w v (insW w.m w.c r) p u
  | [], _, _ => rfl
  | x :: r, p, u => by
    unfold insW
    by_cases h : x.t ≤ w.m ∨ w.c ≤ x.t
    · rw [List.filter_cons_of_neg (by simp; omega), lowGo, if_pos h]; exact lowGo_ins w v r p u
    · rw [List.filter_cons_of_pos (by simp; omega), lowGo, lowGo, if_neg h, if_neg h]
      have := lowGo_ins w v r x.t x.v
      unfold insW at this
      rw [← this]
theorem atP_late2 (v : Vec) : ∀ (f : List Seg) (t : Int), (∀ x ∈ f, t < x.t) → atP v f t = v
  | [], _, _ => rfl
  | x :: r, t, h => by
    have := h x (by simp)
    simp only [atP, List.foldl_cons]
    rw [if_neg (by omega)]
    exact atP_late2 v r t (fun y hy => h y (by simp [hy]))
theorem atP_from (a z : Int) : ∀ (f : List Seg) (v : Vec) (s : Int), (f.map (·.t)).Pairwise (· < ·) → a ≤ s → s < z → atP v f s = atP (atP v f a) (insW a z f) s
  | [], _, _, _, _, _ => rfl
  | x :: r, v, s, hp, h1, h2 => by
    simp only [List.map_cons, List.pairwise_cons, List.mem_map, forall_exists_index, and_imp, forall_apply_eq_imp_iff₂] at hp
    by_cases hx : x.t ≤ a
    · have ih := atP_from a z r x.v s hp.2 h1 h2
      unfold insW
      rw [List.filter_cons_of_neg (by simp; omega)]
      simp only [atP, List.foldl_cons] at ih ⊢
      rw [if_pos (by omega), if_pos hx]
      exact ih
    · have hr : ∀ y ∈ r, a < y.t := fun y hy => by have := hp.1 y hy; omega
      have e : atP v (x :: r) a = v := atP_late2 v _ a (fun y hy => by rcases List.mem_cons.1 hy with rfl | hy; omega; exact hr y hy)
      rw [e]
      have key : ∀ (g : List Seg) (w : Vec), (∀ y ∈ g, a < y.t) → atP w g s = atP w (insW a z g) s := by
        intro g
        induction g with
        | nil => intro _ _; rfl
        | cons y g ih =>
          intro w hg
          have hy := hg y (by simp)
          unfold insW
          by_cases hyz : y.t < z
          · rw [List.filter_cons_of_pos (by simp; omega)]
            simp only [atP, List.foldl_cons]
            exact ih _ (fun q hq => hg q (by simp [hq]))
          · rw [List.filter_cons_of_neg (by simp; omega)]
            simp only [atP, List.foldl_cons]
            rw [if_neg (by omega)]
            exact ih _ (fun q hq => hg q (by simp [hq]))
      exact key _ v (fun y hy => by rcases List.mem_cons.1 hy with rfl | hy; omega; exact hr y hy)
theorem insW_up (a z : Int) {f : List Seg} (h : (f.map (·.t)).Pairwise (· < ·)) : ((insW a z f).map (·.t)).Pairwise (· < ·) ∧ ∀ x ∈ insW a z f, a < x.t ∧ x.t < z := by
  refine ⟨?_, fun x hx => ?_⟩
  · exact h.sublist (List.Sublist.map _ (List.filter_sublist))
  · unfold insW at hx; simp at hx; omega
theorem runs_cover (z : Int) (a : Int) : ∀ (r : List Seg) (p : Int) (u : Vec), (r.map (·.t)).Pairwise (· < ·) → (∀ x ∈ r, a < x.t ∧ x.t < z ∧ p < x.t) → p < z →
    (∀ s, p ≤ s → s < z → ∃ q ∈ runsGo a z r p u, q.1 = atP u r s) ∧ (∀ q ∈ runsGo a z r p u, 0 < q.2 ∧ ∃ s, p ≤ s ∧ s < z ∧ q.1 = atP u r s)
  | [], p, u, _, _, hpz => by
    simp only [runsGo]
    refine ⟨fun s _ _ => ⟨(u, z - p), by simp, rfl⟩, fun q hq => ?_⟩
    simp at hq; subst hq
    exact ⟨by simp only; omega, p, Int.le_refl _, hpz, rfl⟩
  | x :: r, p, u, hp, hx, hpz => by
    simp only [List.map_cons, List.pairwise_cons, List.mem_map, forall_exists_index, and_imp, forall_apply_eq_imp_iff₂] at hp
    obtain ⟨h1, h2, h3⟩ := hx x (by simp)
    obtain ⟨i1, i2⟩ := runs_cover z a r x.t x.v hp.2 (fun y hy => ⟨(hx y (by simp [hy])).1, (hx y (by simp [hy])).2.1, hp.1 y hy⟩) h2
    rw [runsGo, if_neg (by omega)]
    refine ⟨fun s g1 g2 => ?_, fun q hq => ?_⟩
    · by_cases hs : x.t ≤ s
      · obtain ⟨q, hq, e⟩ := i1 s hs g2
        exact ⟨q, by simp [hq], by rw [e]; simp only [atP, List.foldl_cons]; rw [if_pos hs]⟩
      · refine ⟨(u, x.t - p), by simp, ?_⟩
        rw [atP_late2 u _ s (fun y hy => ?_)]
        rcases List.mem_cons.1 hy with rfl | hy
        · omega
        · have := hp.1 y hy; omega
    · rcases List.mem_cons.1 hq with rfl | hq
      · refine ⟨by simp only; omega, p, Int.le_refl _, hpz, ?_⟩
        rw [atP_late2 u _ p (fun y hy => (hx y hy).2.2)]
      · obtain ⟨q0, s, g1, g2, e⟩ := i2 q hq
        exact ⟨q0, s, by omega, g2, by rw [e]; simp only [atP, List.foldl_cons]; rw [if_pos g1]⟩
theorem runsF_law {f : List Seg} (hf : (f.map (·.t)).Pairwise (· < ·)) {a z : Int} (h : a < z) : (∀ s, a ≤ s → s < z → ∃ q ∈ runsF f a z, q.1 = atF f s) ∧ (∀ q ∈ runsF f a z, 0 < q.2 ∧ ∃ s, a ≤ s ∧ s < z ∧ q.1 = atF f s) := by
  unfold runsF
  rw [runsGo_ins]
  obtain ⟨hu, hin⟩ := insW_up a z hf
  obtain ⟨i1, i2⟩ := runs_cover z a (insW a z f) a (atF f a) hu (fun x hx => ⟨(hin x hx).1, (hin x hx).2, (hin x hx).1⟩) h
  have e : ∀ s, a ≤ s → s < z → atP (atF f a) (insW a z f) s = atF f s := fun s g1 g2 => (atP_from a z f v0 s hf g1 g2).symm
  refine ⟨fun s g1 g2 => ?_, fun q hq => ?_⟩
  · obtain ⟨q, hq, h⟩ := i1 s g1 g2
    exact ⟨q, hq, by rw [h, e s g1 g2]⟩
  · obtain ⟨q0, s, g1, g2, h⟩ := i2 q hq
    exact ⟨q0, s, g1, g2, by rw [h, e s g1 g2]⟩
theorem lowGo_mem (w v : Vec) : ∀ (r : List Seg) (p : Int) (u : Vec), (r.map (·.t)).Pairwise (· < ·) → (∀ x ∈ r, w.m < x.t ∧ x.t < w.c ∧ p < x.t) → p < w.c → ∀ s, memW (lowGo w v r p u) s ↔ p ≤ s ∧ s < w.c ∧ leW v (atP u r s) = false
  | [], p, u, _, _, hpz, s => by
    simp only [lowGo]
    split
    · rename_i h
      simp only [memW_nil, atP, List.foldl_nil, h]; simp
    · rename_i h
      simp only [memW_cons, memW_nil, or_false, inW, atP, List.foldl_nil, and_congr_right_iff]
      intro _ ; simp [h]
  | x :: r, p, u, hp, hx, hpz, s => by
    simp only [List.map_cons, List.pairwise_cons, List.mem_map, forall_exists_index, and_imp, forall_apply_eq_imp_iff₂] at hp
    obtain ⟨h1, h2, h3⟩ := hx x (by simp)
    have ih := lowGo_mem w v r x.t x.v hp.2 (fun y hy => ⟨(hx y (by simp [hy])).1, (hx y (by simp [hy])).2.1, hp.1 y hy⟩) h2 s
    rw [lowGo, if_neg (by omega)]
    have hat : atP u (x :: r) s = if x.t ≤ s then atP x.v r s else u := by
      by_cases hs : x.t ≤ s
      · rw [if_pos hs]; simp only [atP, List.foldl_cons]; rw [if_pos hs]
      · rw [if_neg hs, atP_late2 u _ s (fun y hy => ?_)]
        rcases List.mem_cons.1 hy with rfl | hy
        · omega
        · have := hp.1 y hy; omega
    rw [hat]
    split
    · rename_i h
      rw [ih]
      by_cases hs : x.t ≤ s
      · rw [if_pos hs]
        constructor
        · intro ⟨a, b, c⟩; exact ⟨by omega, b, c⟩
        · intro ⟨a, b, c⟩; exact ⟨hs, b, c⟩
      · rw [if_neg hs, h]; simp; omega
    · rename_i h
      rw [memW_cons, ih]
      by_cases hs : x.t ≤ s
      · rw [if_pos hs]
        constructor
        · rintro (⟨a, b⟩ | ⟨a, b, c⟩)
          · simp only at b; omega
          · exact ⟨by omega, b, c⟩
        · intro ⟨a, b, c⟩; exact .inr ⟨hs, b, c⟩
      · rw [if_neg hs]
        constructor
        · rintro (⟨a, b⟩ | ⟨a, b, c⟩)
          · exact ⟨a, by simp only at b; omega, by simpa using h⟩
          · omega
        · intro ⟨a, b, c⟩; exact .inl ⟨a, by simp only; omega⟩
theorem lowF_mem {f : List Seg} (hf : mayF f = true) {w : Vec} (hw : w.m < w.c) (v : Vec) (s : Int) : memW (lowF f w v) s ↔ w.m ≤ s ∧ s < w.c ∧ leW v (atF f s) = false := by
  have hu := ((mayF_iff f).1 hf).1.up
  unfold lowF
  rw [lowGo_ins]
  obtain ⟨hu', hin⟩ := insW_up w.m w.c hu
  rw [lowGo_mem w v (insW w.m w.c f) w.m (atF f w.m) hu' (fun x hx => ⟨(hin x hx).1, (hin x hx).2, (hin x hx).1⟩) hw s]
  constructor
  · intro ⟨a, b, c⟩
    refine ⟨a, b, ?_⟩
    rw [← c]; congr 1
    exact atP_from w.m w.c f v0 s hu a b
  · intro ⟨a, b, c⟩
    refine ⟨a, b, ?_⟩
    rw [← c]; congr 1
    exact (atP_from w.m w.c f v0 s hu a b).symm
def overE (f : List Seg) (a z : Int) : Int := if mayF f then (if -1125899906842624 ≤ min a z ∧ max a z ≤ 1125899906842624 ∧ a < z ∧ z - a ≤ 8000 then 0 else 2) else 5
end Go.Proofs.Ytglekfgoadehbaa.V
end
section
set_option linter.unusedSimpArgs false
set_option linter.unusedVariables false
/- A frame rule: what a call knows nothing of stays as it was. -/
namespace Go.Proofs.Ytglekfgoadehbaa.V
open Go Go.RowKit
variable {P : Program} {Z : Im}
theorem own_ins {st : St} {b : Nat} {o : AObj} {i : Nat} (h : st.own i) : (st.ins b o).own i := by
  rcases h with ⟨x, h⟩ | ⟨k, h, e⟩
  · by_cases hi : i = b
    · exact .inl ⟨o, by simp [St.ins, hi]⟩
    · exact .inl ⟨x, by simp [St.ins, hi, h]⟩
  · exact .inr ⟨k, h, e⟩
theorem Rel.unframe {B : Base} {I : Im} {st : St} {W : World} {b : Nat} {o : AObj} (h : Rel B I (st.ins b o) W) (hb : st.objs b = none) : Rel ⟨st.own, W, I⟩ I st W := by
  have hn : ∀ {i : Nat} {x : AObj}, st.objs i = some x → (st.ins b o).objs i = some x := by
    intro i x e
    have : ¬ i = b := fun hi => by rw [hi, hb] at e; cases e
    simp [St.ins, this, e]
  have hk : ∀ {k : Tk}, st.live k = true → ¬ k.b = b ∧ st.objs k.b = none := by
    intro k hl
    obtain ⟨_, _, _, _, _, e⟩ := h.tk k hl
    simp only [St.ins] at e
    split at e
    · cases e
    · rename_i hne; exact ⟨hne, e⟩
  exact {
    cells := fun i cs e => h.cells i cs (hn e)
    raw := fun i x e => h.raw i x (hn e)
    minv := fun i x e => h.minv i x (hn e)
    imm := h.imm
    sep := fun i x e => h.sep i x (hn e)
    tk := fun k hl => by
      obtain ⟨arr, ty, e1, e2, e3, _⟩ := h.tk k hl
      exact ⟨arr, ty, e1, e2, e3, (hk hl).2⟩
    tk1 := h.tk1
    upd := Upd.refl _ _
    own := fun i hi => .inl hi
    le := Im.le.refl _
    new := fun i x hi => .inl hi }
theorem Rel.reframe {B : Base} {I J : Im} {st st' : St} {W W' : World} {b : Nat} {o : AObj} (h : Rel B I (st.ins b o) W) (hb : st.objs b = none) (h' : Rel ⟨st.own, W, I⟩ J st' W') : st'.objs b = none ∧ Rel B J (st'.ins b o) W' := by
  have hself : (st.ins b o).objs b = some o := by simp [St.ins]
  have hlt := h.objs_lt hself
  have hno : ¬ st.own b := by
    rintro (⟨x, e⟩ | ⟨k, hl, e⟩)
    · rw [hb] at e; cases e
    · obtain ⟨_, _, _, _, _, e2⟩ := h.tk k hl
      rw [e, hself] at e2; cases e2
  have hno' : ¬ st'.own b := fun hx => by
    rcases h'.own b hx with e | e
    · exact hno e
    · have : W.heap.size ≤ b := e
      omega
  have hheap : W'.heap[b]? = W.heap[b]? := h'.upd.same b hlt hno
  have hJ : ∀ x, J b x = none := by
    intro x
    cases e : J b x with
    | none => rfl
    | some v =>
      rcases h'.new b x (by rw [e]; simp) with q | q | q
      · exact absurd (h.sep b o hself x) q
      · exact absurd q hno
      · have : W.heap.size ≤ b := q
        omega
  have hn' : st'.objs b = none := by
    cases e : st'.objs b with
    | none => rfl
    | some x => exact absurd (.inl ⟨x, e⟩) hno'
  refine ⟨hn', ?_⟩
  exact {
    cells := fun i cs e => by
      simp only [St.ins] at e
      split at e
      · rename_i hi
        subst hi
        cases e
        obtain ⟨vs, ty, e1, e2⟩ := h.cells i cs hself
        exact ⟨vs, ty, hheap.trans e1, RepL.mono h'.le _ _ e2⟩
      · exact h'.cells i cs e
    raw := fun i x e => by
      simp only [St.ins] at e
      split at e
      · rename_i hi
        subst hi
        cases e
        exact hheap.trans (h.raw i x hself)
      · exact h'.raw i x e
    minv := fun i x e => by
      simp only [St.ins] at e
      split at e
      · rename_i hi
        subst hi
        cases e
        obtain ⟨es, clk, e1, hp⟩ := h.minv i x hself
        exact ⟨es, clk, hheap.trans e1, hp⟩
      · exact h'.minv i x e
    imm := h'.imm
    sep := fun i x e => by
      simp only [St.ins] at e
      split at e
      · rename_i hi; subst hi; exact hJ
      · exact h'.sep i x e
    tk := fun k hl => by
      obtain ⟨arr, ty, e1, e2, e3, e4⟩ := h'.tk k hl
      have hne : ¬ k.b = b := fun e => hno' (.inr ⟨k, hl, e⟩)
      exact ⟨arr, ty, e1, e2, e3, by simp only [St.ins]; rw [if_neg hne]; exact e4⟩
    tk1 := h'.tk1
    upd := h.upd.trans (h'.upd.mono fun k _ hk => h.own k (own_ins hk))
    own := fun i hi => by
      have key : st'.own i → B.X i ∨ B.W.heap.size ≤ i := fun hx => by
        rcases h'.own i hx with e | e
        · exact h.own i (own_ins e)
        · have : W.heap.size ≤ i := e
          exact .inr (Nat.le_trans h.upd.size this)
      rcases hi with ⟨x, e⟩ | ⟨k, hl, e⟩
      · simp only [St.ins] at e
        split at e
        · rename_i hi; subst hi; exact h.own i (.inl ⟨o, hself⟩)
        · exact key (.inl ⟨x, e⟩)
      · exact key (.inr ⟨k, hl, e⟩)
    le := h.le.trans h'.le
    new := fun i x hi => by
      rcases h'.new i x hi with q | q | q
      · exact h.new i x q
      · exact .inr (h.own i (own_ins q))
      · have : W.heap.size ≤ i := q
        exact .inr (.inr (Nat.le_trans h.upd.size this)) }
theorem VCalls.frame {f : Nat} {args : List AV} {st : St} {K : AV → St → Prop} (h : VCalls P Z f args st K) (b : Nat) (o : AObj) (hb : st.objs b = none) : VCalls P Z f args (st.ins b o) (fun v s => ∃ s', K v s' ∧ s'.objs b = none ∧ s = s'.ins b o) :=
  ⟨h.1, fun B I W vs hz hr ha => (h.2 _ I W vs hz (hr.unframe hb) ha).mono fun e W' ⟨u, J, st', v, h1, h2, h3, h4, h5⟩ => by
    obtain ⟨q1, q2⟩ := hr.reframe hb h3
    exact ⟨u, J, st'.ins b o, v, h1, h2, q2, h4, st', h5, q1, rfl⟩⟩
theorem VYield.frame {l : Nat} {args : List AV} {st : St} {K : AV → St → Prop} (h : VYield P Z l args st K) (b : Nat) (o : AObj) (hb : st.objs b = none) : VYield P Z l args (st.ins b o) (fun v s => ∃ s', K v s' ∧ s'.objs b = none ∧ s = s'.ins b o) :=
  fun B I W vs hz hr ha => YieldAt.mono' (h _ I W vs hz (hr.unframe hb) ha) fun e W' ⟨u, J, st', v, h1, h2, h3, h4, h5⟩ => by
    obtain ⟨q1, q2⟩ := hr.reframe hb h3
    exact ⟨u, J, st'.ins b o, v, h1, h2, q2, h4, st', h5, q1, rfl⟩
theorem St.le.none {s t : St} (h : s.le t) {b : Nat} (hb : t.objs b = none) : s.objs b = none := by
  cases e : s.objs b with
  | none => rfl
  | some x => rw [h.objs b x e] at hb; cases hb
end Go.Proofs.Ytglekfgoadehbaa.V
end
section
set_option linter.unusedSimpArgs false
set_option linter.unusedVariables false
/- Closures whose objects are constants; iterators; ranges over them. -/
namespace Go.Proofs.Ytglekfgoadehbaa.V
open Go Go.RowKit
variable {P : Program} {Z : Im}
/-! A pointer to an object becomes a pointer to a constant, in closures and structs. -/
mutual
def AV.sub (b : Nat) (x : AV) : AV → AV
  | .ptr b' o => if b' = b then .iptr x o else .ptr b' o
  | .clo f fs cs => .clo f (AV.subL b x fs) (AV.subL b x cs)
  | .agg cs => .agg (AV.subL b x cs)
  | .tup cs => .tup (AV.subL b x cs)
  | v => v
def AV.subL (b : Nat) (x : AV) : List AV → List AV
  | [] => []
  | a :: r => AV.sub b x a :: AV.subL b x r
end
mutual
theorem Rep.sub {J : Im} {b : Nat} {x : AV} (hp : ∀ o v, Rep J (.ptr b o) v → Rep J (.iptr x o) v) : ∀ (a : AV) (v : Value), Rep J a v → Rep J (AV.sub b x a) v
  | .ptr b' o, v, h => by
    simp only [AV.sub]
    split
    · rename_i e; subst e; exact hp o v h
    · exact h
  | .clo f fs cs, v, h => by
    simp only [AV.sub, Rep] at h ⊢
    obtain ⟨us, vs, e, h1, h2⟩ := h
    exact ⟨us, vs, e, RepL.sub hp fs _ h1, RepL.sub hp cs _ h2⟩
  | .agg cs, v, h => by
    simp only [AV.sub, Rep] at h ⊢
    obtain ⟨vs, e, h1⟩ := h
    exact ⟨vs, e, RepL.sub hp cs _ h1⟩
  | .tup cs, v, h => by
    simp only [AV.sub, Rep] at h ⊢
    obtain ⟨vs, e, h1⟩ := h
    exact ⟨vs, e, RepL.sub hp cs _ h1⟩
  | .undef, _, h => h
  | .no, _, h => h
  | .int _ _, _, h => h
  | .bool _, _, h => h
  | .str _, _, h => h
  | .nilp, _, h => h
  | .iptr _ _, _, h => h
  | .sl _ _, _, h => h
  | .osl _ _ _, _, h => h
  | .osx _ _ _ _, _, h => h
  | .yld _, _, h => h
  | .nilf, _, h => h
  | .mp _, _, h => h
  | .nilm, _, h => h
theorem RepL.sub {J : Im} {b : Nat} {x : AV} (hp : ∀ o v, Rep J (.ptr b o) v → Rep J (.iptr x o) v) : ∀ (l : List AV) (vs : List Value), RepL J l vs → RepL J (AV.subL b x l) vs
  | [], [], _ => trivial
  | a :: r, v :: vs, h => ⟨Rep.sub hp a v h.1, RepL.sub hp r vs h.2⟩
  | [], _ :: _, h => h.elim
  | _ :: _, [], h => h.elim
end
section
variable {B : Base} {I : Im} {st : St} {W : World}
theorem rel_freezeO (h : Rel B I st W) {sz b : Nat} (hp : 0 < sz) {x : AV} (hob : st.objs b = some (.cells x.cells)) (hk : okEl sz x = true) :
    ∃ J, I.le J ∧ Rel B J (st.del b) W ∧ ∀ o v, Rep J (.ptr b o) v → Rep J (.iptr x o) v := by
  obtain ⟨vs, vty, hb, hr⟩ := h.cells b _ hob
  have hdel := h.weaken (St.del_le st b)
  obtain ⟨hle, hrel⟩ := hdel.know (lo := 0) (hi := sz) hb (by simp [St.del]) (fun o _ _ => h.sep b _ hob o) (fun k hk' e => by
    obtain ⟨_, _, _, _, _, r3⟩ := h.tk k hk'
    rw [e, hob] at r3; cases r3) (h.own b (.inl ⟨_, hob⟩))
  refine ⟨_, hle, hrel, fun oo v hv => ?_⟩
  simp only [Rep] at hv ⊢
  have hx := hk
  simp only [okEl, Bool.and_eq_true, beq_iff_eq] at hx
  have hl := hr.length
  have hrr : RepR (I.row b 0 sz vs) sz [x] b 0 := by
    refine RepR.of_flat hp (fun y hy => by rcases List.mem_singleton.1 hy with rfl; exact hk) (vs := vs.toList) ?_ (fun j v hj => ?_)
    · simpa using hr.mono hle
    · have hj2 := (List.getElem?_eq_some_iff.1 hj).1
      unfold Im.row
      rw [if_pos ⟨rfl, by omega, by omega⟩, Nat.zero_add]
      simpa using hj
  simp only [RepR] at hrr
  obtain ⟨⟨u, h1, h2, h3⟩, _⟩ := hrr
  exact ⟨b, 0, u, by rw [Nat.zero_add]; exact hv, h1, h3⟩
end
theorem Wk.fz (st : St) {b : Nat} {x : AV} (hob : st.objs b = some (.cells x.cells)) (hk : okEl x.cells.length x = true) (hp : 0 < x.cells.length) (l : List AV) : Wk st l (st.del b) (AV.subL b x l) := fun B I W vs hr ha => by
  obtain ⟨J, q1, q2, q3⟩ := rel_freezeO hr hp hob hk
  exact ⟨J, q1, q2, RepL.sub q3 l vs (RepL.mono q1 l vs ha)⟩
theorem VCalls.fz {f : Nat} {args : List AV} {st s : St} {K : AV → St → Prop} {v : AV} {b : Nat} {x : AV} (h : VCalls P Z f args st (fun r t => r = v ∧ t = s)) (hob : s.objs b = some (.cells x.cells)) (hk : okEl x.cells.length x = true) (hp : 0 < x.cells.length)
    (hK : K (AV.sub b x v) (s.del b)) : VCalls P Z f args st K := h.wk (by
  rintro _ _ ⟨rfl, rfl⟩
  exact ⟨_, _, Wk.fz _ hob hk hp [_], hK⟩)
theorem St.le.ins {s t : St} (h : s.le t) (b : Nat) (o : AObj) : (s.ins b o).le (t.ins b o) := by
  refine ⟨fun i x e => ?_, fun k hk => h.live k hk⟩
  simp only [St.ins] at e ⊢
  split
  · rename_i hi; rw [if_pos hi] at e; exact e
  · rename_i hi; rw [if_neg hi] at e; exact h.objs i x e
/-! Iterators. -/
def YY (I : Nat → St → Prop) (E : St → Prop) (k : Nat) (v : AV) (s : St) : Prop := (v = .bool true ∧ ∃ S', I (k + 1) S' ∧ S'.le s) ∨ (v = .bool false ∧ ∃ S', E S' ∧ S'.le s)
def VIter (P : Program) (gf : Nat) (fs cs : List AV) (xs : List (List AV)) : Prop :=
  ∀ (Y : Im) (l : Nat) (I : Nat → St → Prop) (E : St → Prop) (S0 : St), I 0 S0 → (∀ k (h : k < xs.length) S, I k S → VYield P Y l xs[k] S (YY I E k)) →
    VCalls P Y gf (fs ++ [.yld l] ++ cs) S0 (fun r s => r = .tup [] ∧ ∃ S', (I xs.length S' ∨ E S') ∧ S'.le s)
def xcode : Exit → Option Code
  | .ret => some .ret
  | .exit id => some (.exit id)
  | .goto t => some (.goto t)
  | _ => none
theorem jump_x {Q : Exit → Fr → St → Prop} {e : Exit} {c : Code} (h : xcode e = some c) (fr : Fr) (st : St) : jumpQ Q (some c) fr st = Q e fr st := by
  cases e <;> simp only [xcode, Option.some.injEq, reduceCtorEq] at h <;> subst h <;> rfl
def rQ (I : Nat → St → Prop) (E : Exit → St → Prop) (k : Nat) (F : St → St) (l : Nat) (r : Loop) : Exit → Fr → St → Prop
  | .normal, _, st => ∃ S', I (k + 1) S' ∧ S'.objs l = none ∧ ((F S').ins l (lobj r .busy none)).le st
  | e, _, st => (∃ S', E e S' ∧ S'.objs l = none ∧ ((F S').ins l (lobj r .busy none)).le st) ∧ (xcode e).isSome = true
theorem rq_normal (I : Nat → St → Prop) (E : Exit → St → Prop) (k : Nat) (F : St → St) (l : Nat) (r : Loop) (fr : Fr) (st : St) : rQ I E k F l r .normal fr st = ∃ S', I (k + 1) S' ∧ S'.objs l = none ∧ ((F S').ins l (lobj r .busy none)).le st := rfl
theorem le_ins_self {s st : St} {b : Nat} {x y : AObj} (h : (s.ins b x).le st) : (s.ins b y).le (st.ins b y) := by
  refine ⟨fun i o e => ?_, fun k hk => h.live k hk⟩
  simp only [St.ins] at e ⊢
  split
  · rename_i hi; rw [if_pos hi] at e; exact e
  · rename_i hi; rw [if_neg hi] at e; exact h.objs i o (by simp only [St.ins]; rw [if_neg hi]; exact e)
theorem iter_call {ps : List Nat} {asg body : VCode} {fr : Fr} {st : St} {gf : Nat} {fs cs : List AV} {xs : List (List AV)} {Y : Im} {l : Nat} {r : Loop} (hit : VIter P gf fs cs xs) (hps : ∀ x ∈ xs, x.length = ps.length) (I : Nat → St → Prop) (E : Exit → St → Prop) (F : St → St) (h0 : I 0 st)
    (hl : st.objs l = none)
    (hyY : ∀ args st' K, args.length = ps.length → st'.objs l = some (lobj r .ready none) →
        vwp P asg Y (some l) (fun e fr1 st1 => e = .normal ∧ st1.objs l = some (lobj r .ready none) ∧ vwp P body Y (some l) (roundQ l r K) fr1 (st1.ins l (lobj r .busy none))) (argsFr ps args fr) st' → VYield P Y l args st' K)
    (hround : ∀ k (h : k < xs.length) S, I k S → S.objs l = none → vwp P asg Y (some l) (fun e fr1 st1 => e = .normal ∧ st1.objs l = some (lobj r .ready none) ∧ vwp P body Y (some l) (rQ I E k F l r) fr1 (st1.ins l (lobj r .busy none))) (argsFr ps xs[k] fr) ((F S).ins l (lobj r .ready none))) :
    VCalls P Y gf (fs ++ [.yld l] ++ cs) ((F st).ins l (lobj r .ready none)) (fun _ s2 => (∃ S', I xs.length S' ∧ S'.objs l = none ∧ s2 = (F S').ins l (lobj r .ready none)) ∨ ∃ e c S', xcode e = some c ∧ E e S' ∧ S'.objs l = none ∧ s2 = (F S').ins l (lobj r .done (some c))) := by
  refine VCalls.wk (hit Y l (fun k s => ∃ S, I k S ∧ S.objs l = none ∧ s = (F S).ins l (lobj r .ready none)) (fun s => ∃ e c S, xcode e = some c ∧ E e S ∧ S.objs l = none ∧ s = (F S).ins l (lobj r .done (some c))) _ ⟨st, h0, hl, rfl⟩ ?_) ?_
  · rintro k hk _ ⟨S, hI, hS, rfl⟩
    refine hyY _ _ _ (hps _ (List.getElem_mem hk)) (by simp [St.ins]) ?_
    refine vwp_mono ?_ (hround k hk S hI hS)
    rintro e fr1 st1 ⟨rfl, h1, h2⟩
    refine ⟨rfl, h1, vwp_mono ?_ h2⟩
    rintro e fr2 st2 hq
    have hx : ∀ {S' : St}, ((F S').ins l (lobj r .busy none)).le st2 → st2.objs l = some (lobj r .busy none) := fun h => h.objs l _ (by simp [St.ins])
    cases e with
    | normal =>
      obtain ⟨S', a1, a2, a3⟩ := hq
      exact ⟨hx a3, .inl ⟨rfl, _, ⟨S', a1, a2, rfl⟩, le_ins_self a3⟩⟩
    | ret =>
      obtain ⟨⟨S', a1, a2, a3⟩, _⟩ := hq
      exact ⟨hx a3, .inr ⟨rfl, _, ⟨.ret, .ret, S', rfl, a1, a2, rfl⟩, le_ins_self a3⟩⟩
    | exit id =>
      obtain ⟨⟨S', a1, a2, a3⟩, _⟩ := hq
      exact ⟨hx a3, .inr ⟨rfl, _, ⟨.exit id, .exit id, S', rfl, a1, a2, rfl⟩, le_ins_self a3⟩⟩
    | goto id =>
      obtain ⟨⟨S', a1, a2, a3⟩, _⟩ := hq
      exact ⟨hx a3, .inr ⟨rfl, _, ⟨.goto id, .goto id, S', rfl, a1, a2, rfl⟩, le_ins_self a3⟩⟩
    | _ => obtain ⟨_, h⟩ := hq; cases h
  · rintro v s ⟨rfl, S', h, hle⟩
    refine ⟨_, S', Wk.le hle _, ?_⟩
    exact h
theorem rng_iter {g : VE} {ps : List Nat} {asg body : VCode} {Q : Exit → Fr → St → Prop} {fr : Fr} {st : St} {gf : Nat} {fs cs : List AV} {xs : List (List AV)} (hg : g.ev fr = .clo gf fs cs) (hit : VIter P gf fs cs xs) (hps : ∀ x ∈ xs, x.length = ps.length)
    (I : Nat → St → Prop) (E : Exit → St → Prop) (h0 : I 0 st)
    (hround : ∀ Y l D r, Z.le Y → ¬ l = D → ¬ D = l → ∀ k (h : k < xs.length) S, I k S → S.objs l = none → S.objs D = none →
      vwp P asg Y (some l) (fun e fr1 st1 => e = .normal ∧ st1.objs l = some (lobj r .ready none) ∧ vwp P body Y (some l) (rQ (fun k S => I k S ∧ S.objs D = none) (fun e S => E e S ∧ S.objs D = none) k (fun S => S.ins D dobj) l r) fr1 (st1.ins l (lobj r .busy none))) (argsFr ps xs[k] fr) ((S.ins D dobj).ins l (lobj r .ready none)))
    (hend : ∀ D l o S, ¬ l = D → ¬ D = l → I xs.length S → S.objs l = none → S.objs D = none → Q .normal { fr with d := D :: fr.d } ((S.ins D dobj).ins l o))
    (hout : ∀ e D l o S, ¬ l = D → ¬ D = l → E e S → S.objs l = none → S.objs D = none → Q e { fr with d := D :: fr.d } ((S.ins D dobj).ins l o)) : vwp P (.rng g ps asg body) Z none Q fr st := by
  refine rng_of hg (fun Y l D r hzy hl hD hlD hyY => ?_)
  have hDl : ¬ D = l := fun e => hlD e.symm
  refine (iter_call hit hps (fun k S => I k S ∧ S.objs D = none) (fun e S => E e S ∧ S.objs D = none) (fun S => S.ins D dobj) ⟨h0, hD⟩ hl hyY (fun k hk S hI hS => hround Y l D r hzy hlD hDl k hk S hI.1 hS hI.2)).mono ?_
  rintro v s (⟨S', ⟨a1, a2⟩, a3, rfl⟩ | ⟨e, c, S', hc, ⟨a1, a2⟩, a3, rfl⟩)
  · exact ⟨.ready, none, by simp, by simp [St.ins], by rw [jq_none, ins_ins]; exact hend D l _ S' hlD hDl a1 a3 a2⟩
  · refine ⟨.done, some c, by simp, by simp [St.ins], ?_⟩
    rw [jump_x hc, ins_ins]
    exact hout e D l _ S' hlD hDl a1 a3 a2
/-! Functions with ranges over functions: what is left at the end. -/
def DS (st S : St) (ds : List Nat) : Prop := st.le S ∧ ds.Nodup ∧ ∀ D ∈ ds, S.objs D = some dobj ∧ st.objs D = none
theorem DS.nil {st S : St} (h : st.le S) : DS st S [] := ⟨h, List.nodup_nil, fun _ hm => absurd hm List.not_mem_nil⟩
theorem le_ins_new {s t : St} (h : s.le t) {b : Nat} (o : AObj) (hb : s.objs b = none) : s.le (t.ins b o) := by
  refine ⟨fun i x e => ?_, fun k hk => h.live k hk⟩
  simp only [St.ins]
  split
  · rename_i hi; subst hi; rw [hb] at e; cases e
  · exact h.objs i x e
theorem DS.cons {st S : St} {ds : List Nat} (h : DS st S ds) {D : Nat} (hD : S.objs D = none) : DS st (S.ins D dobj) (D :: ds) := by
  obtain ⟨h1, h2, h3⟩ := h
  have hst := h1.none hD
  refine ⟨le_ins_new h1 _ hst, List.nodup_cons.2 ⟨fun hm => (by rw [(h3 D hm).1] at hD; cases hD), h2⟩, fun E hE => ?_⟩
  rcases List.mem_cons.1 hE with rfl | hE
  · exact ⟨by simp [St.ins], hst⟩
  · have hne : ¬ E = D := fun e => by rw [← e, (h3 E hE).1] at hD; cases hD
    exact ⟨by simp only [St.ins]; rw [if_neg hne]; exact (h3 E hE).1, (h3 E hE).2⟩
theorem argsFr1_t (p : Nat) (a : AV) (fr : Fr) (i : Nat) : (argsFr [p] [a] fr).t i = if i = p then a else fr.t i := rfl
theorem argsFr1_d (p : Nat) (a : AV) (fr : Fr) : (argsFr [p] [a] fr).d = [] := rfl
theorem DS.fin {st S s' : St} {ds : List Nat} (h : DS st S ds) (hs : S.le s') : ∀ D ∈ ds, s'.objs D = some dobj ∧ st.objs D = none := fun D hD => ⟨hs.objs D _ (h.2.2 D hD).1, (h.2.2 D hD).2⟩
/-! Maps of which an invariant is known. -/
theorem rel_toM {B : Base} {I : Im} {st : St} {W : World} (h : Rel B I st W) {b clk : Nat} {es : Array MapEntry} {p : Array MapEntry → Nat → Prop} (hob : st.objs b = some (.raw (.map es clk))) (hp : p es clk) : Rel B I (st.ins b (.minv p)) W := by
  have hh := h.raw b _ hob
  have hne : ∀ k, st.live k = true → k.b ≠ b := fun k hk e => by obtain ⟨_, _, _, _, _, r3⟩ := h.tk k hk; rw [e, hob] at r3; cases r3
  exact {
    cells := fun i cs hi => by
      simp only [St.ins] at hi
      split at hi
      · cases hi
      · exact h.cells i cs hi
    raw := fun i x hi => by
      simp only [St.ins] at hi
      split at hi
      · cases hi
      · exact h.raw i x hi
    minv := fun i q hi => by
      simp only [St.ins] at hi
      split at hi
      · rename_i e; subst e; cases hi; exact ⟨es, clk, hh, hp⟩
      · exact h.minv i q hi
    imm := h.imm
    sep := fun i x hi => by
      simp only [St.ins] at hi
      split at hi
      · rename_i e; subst e; exact h.sep i _ hob
      · exact h.sep i x hi
    tk := fun k hk => by
      obtain ⟨arr, ty, e, r1, r2, r3⟩ := h.tk k hk
      exact ⟨arr, ty, e, r1, r2, by simp only [St.ins]; rw [if_neg (hne k hk)]; exact r3⟩
    tk1 := h.tk1
    upd := h.upd
    own := fun i hi => by
      rcases hi with ⟨x, hi⟩ | ⟨k, hk, e⟩
      · simp only [St.ins] at hi
        split at hi
        · rename_i e; subst e; exact h.own i (.inl ⟨_, hob⟩)
        · exact h.own i (.inl ⟨x, hi⟩)
      · exact h.own i (.inr ⟨k, hk, e⟩)
    le := h.le
    new := h.new }
theorem Wk.toM (st : St) {b clk : Nat} {es : Array MapEntry} {p : Array MapEntry → Nat → Prop} (hob : st.objs b = some (.raw (.map es clk))) (hp : p es clk) (l : List AV) : Wk st l (st.ins b (.minv p)) l := fun B I W vs hr ha =>
  ⟨I, Im.le.refl _, rel_toM hr hob hp, ha⟩
theorem Wk.toMemo {α : Type} (enc : α → Value) (kv : IntKind) (g : α → Int) (st : St) {b : Nat} (hob : st.objs b = some (.raw (.map #[] 0))) (l : List AV) : Wk st l (st.ins b (memo enc kv g)) l :=
  Wk.toM st hob ⟨[], rfl, rfl, by simp⟩ l
theorem mOf_insN {st : St} {b : Nat} {cs : List AV} (hb : st.objs b = none) : mOf (st.ins b (.cells cs)) = mOf st := mOf_ins (fun p => by rw [hb]; simp)
theorem mOf_kill (st : St) (t : Tok) : mOf (st.kill t) = mOf st := by unfold mOf; rw [kill_objs]
theorem mOf_add (st : St) (t : Tok) : mOf (st.add t) = mOf st := by unfold mOf; rw [add_objs]
theorem mOf_at {st s : St} {b : Nat} {p : Array MapEntry → Nat → Prop} (h : mOf s = mOf st) (hb : st.objs b = some (.minv p)) : s.objs b = some (.minv p) := by
  have h1 : mOf s b = some p := by rw [h]; simp only [mOf, hb]
  simp only [mOf] at h1
  cases e : s.objs b with
  | none => rw [e] at h1; cases h1
  | some o => cases o with
    | minv q => rw [e] at h1; cases h1; rfl
    | cells _ => rw [e] at h1; cases h1
    | raw _ => rw [e] at h1; cases h1
theorem callH_useM {f : Nat} {args : List AV} {v : AV} {m : Nat → Option (Array MapEntry → Nat → Prop)} (h : VPureM P f args v m) {st : St} (hm : mOf st = m) {K : AV → St → Prop} {t : Tag K} (k : K v st) : callH P Z f args st K t :=
  (h Z st hm).mono fun r s e => by rw [e.1, e.2]; exact k
theorem pureQ_useN {f : Nat} {args : List AV} {v : AV} {m : Nat → Option (Array MapEntry → Nat → Prop)} (h : VPureM P f args v m) {st : St} (hm : mOf st = m) {K : AV → Prop} {t : Tag K} (k : K v) : pureQ P f args st K t := ⟨v, by rw [hm]; exact h, k⟩
end Go.Proofs.Ytglekfgoadehbaa.V
end
section
set_option linter.unusedSimpArgs false
set_option linter.unusedVariables false
/- More loops. -/
namespace Go.Proofs.Ytglekfgoadehbaa.V
open Go Go.RowKit
variable {P : Program} {Z : Im}
theorem loopp_of {b : VCode} {ro : Option Nat} {Q : Exit → Fr → St → Prop} {fr0 : Fr} {st0 : St} {l : List Nat} {n : Bool} (hl : asgL b = l) (hd : noR b = n) {len : Nat} (hn : len ≤ 1000000000000) (I : Nat → Fr → Prop) (h0 : I 0 fr0)
    (hs : ∀ k fr, k < len → IntKind.i64.wrap ((k : Int) + 1) = (k : Int) + 1 → (∀ i, l.contains i = false → fr.t i = fr0.t i) → (n = true → fr.d = fr0.d) → I k fr → vwp P b Z ro (thenQ (fun fr' st' => st0.le st' ∧ I (k + 1) fr') Q) fr st0)
    (he : ∀ fr, (∀ i, l.contains i = false → fr.t i = fr0.t i) → (n = true → fr.d = fr0.d) → I len fr → vwp P b Z ro (thenQ (fun _ _ => False) Q) fr st0) : vwp P (.loop b) Z ro Q fr0 st0 := by
  refine loopf_of hl hd hn (fun k fr s => s = st0 ∧ I k fr) ⟨rfl, h0⟩ ?_ ?_
  · rintro k fr s hk hw hf hdd ⟨rfl, hI⟩
    refine vwp_mono (fun e fr2 st2 q => ?_) (hs k fr hk hw hf hdd hI)
    cases e <;> simp only [thenQ] at q ⊢
    · exact ⟨_, q.1, rfl, q.2⟩
    all_goals exact q
  · rintro fr s hf hdd ⟨rfl, hI⟩
    exact he fr hf hdd hI
theorem loopr_of {b : VCode} {ro : Option Nat} {Q : Exit → Fr → St → Prop} {fr0 : Fr} {st0 : St} {l : List Nat} {n : Bool} (hl : asgL b = l) (hd : noR b = n) (I : Nat → Fr → St → Prop) (h0 : ∃ k, I k fr0 st0)
    (hs : ∀ k fr st, (∀ i, l.contains i = false → fr.t i = fr0.t i) → (n = true → fr.d = fr0.d) → I k fr st → vwp P b Z ro (thenQ (fun fr' st' => ∃ s, s.le st' ∧ ∃ j, j < k ∧ I j fr' s) Q) fr st) : vwp P (.loop b) Z ro Q fr0 st0 := by
  classical
  have least : ∀ fr st, (∃ k, I k fr st) → ∃ k, I k fr st ∧ ∀ j, I j fr st → k ≤ j := by
    intro fr st ⟨k, hk⟩
    induction k using Nat.strongRecOn with
    | _ k ih =>
      by_cases h : ∃ j, j < k ∧ I j fr st
      · obtain ⟨j, h1, h2⟩ := h; exact ih j h1 h2
      · exact ⟨k, hk, fun j hj => Nat.le_of_not_lt fun hlt => h ⟨j, hlt, hj⟩⟩
  refine loopm_of hl hd (fun fr s => ∃ k, I k fr s) (fun fr s => if h : ∃ k, I k fr s then (least fr s h).choose else 0) h0 ?_
  intro fr st hf hdd hI
  obtain ⟨k1, k2⟩ := (least fr st hI).choose_spec
  refine vwp_mono (fun e fr2 st2 q => ?_) (hs _ fr st hf hdd k1)
  cases e <;> simp only [thenQ] at q ⊢
  · obtain ⟨s, h1, j, h2, h3⟩ := q
    refine ⟨s, h1, ⟨j, h3⟩, ?_⟩
    rw [dif_pos ⟨j, h3⟩, dif_pos hI]
    exact Nat.lt_of_le_of_lt ((least fr2 s ⟨j, h3⟩).choose_spec.2 j h3) h2
  all_goals exact q
theorem loopq_of {b : VCode} {ro : Option Nat} {Q : Exit → Fr → St → Prop} {fr0 : Fr} {st0 : St} {l : List Nat} {n : Bool} (hl : asgL b = l) (hd : noR b = n) (I : Nat → Fr → Prop) (h0 : ∃ k, I k fr0)
    (hs : ∀ k fr, (∀ i, l.contains i = false → fr.t i = fr0.t i) → (n = true → fr.d = fr0.d) → I k fr → vwp P b Z ro (thenQ (fun fr' st' => st0.le st' ∧ ∃ j, j < k ∧ I j fr') Q) fr st0) : vwp P (.loop b) Z ro Q fr0 st0 := by
  obtain ⟨k0, h0⟩ := h0
  refine loopr_of hl hd (fun k fr s => s = st0 ∧ I k fr) ⟨k0, rfl, h0⟩ ?_
  rintro k fr s hf hdd ⟨rfl, hI⟩
  refine vwp_mono (fun e fr2 st2 q => ?_) (hs k fr hf hdd hI)
  cases e <;> simp only [thenQ] at q ⊢
  · obtain ⟨h1, j, h2, h3⟩ := q
    exact ⟨_, h1, j, h2, rfl, h3⟩
  all_goals exact q
theorem toNat_succ (k : Nat) : ((k : Int) + 1).toNat = k + 1 := by omega
end Go.Proofs.Ytglekfgoadehbaa.V
end
section
set_option linter.unusedSimpArgs false
set_option linter.unusedVariables false
/- The compiled functions of the package span (printed by Print.lean of this work). -/
namespace Go.Proofs.Ytglekfgoadehbaa.V
open Go Go.Proofs
def v_span_Sum : VFn := ⟨.seq (.reg [⟨some 6, .alloc [(.int .i64 0), (.int .i64 0)], none, [], []⟩,
 ⟨some 7, .mov (.c (.int .i64 0)), none, [], []⟩])
(.seq (.reg [⟨some 8, .alloc [(.int .i64 0), (.int .i64 0)], none, [], []⟩])
(.seq (.reg [⟨some 10, .mov (.t 0), none, [], []⟩,
 ⟨some 11, .mov (.t 1), none, [], []⟩,
 ⟨some 12, .mov (.t 2), none, [], []⟩,
 ⟨some 13, .mkf 102 [] [(.t 8)], none, [], []⟩,
 ⟨some 14, .call 101 [(.t 10), (.t 11), (.t 12), (.t 13)], none, [0, 1, 2, 3], []⟩,
 ⟨some 9, .mov (.t 14), none, [4, 4, 0, 1, 2, 3, 4], []⟩])
(.seq (.seq (.reg [⟨some 15, .mov (.t 9), none, [], []⟩,
 ⟨some 16, .bin .neq (.t 15) (.c (.int .i64 0)), none, [0], []⟩])
(.cond (.t 16)
 (.seq (.reg [⟨some 17, .build [(.int .i64 0), (.int .i64 0)] [], none, [], []⟩,
 ⟨some 18, .mov (.t 9), none, [], []⟩,
 ⟨none, .store 2 (.t 6) (.t 17), none, [0, 0], []⟩,
 ⟨some 7, .mov (.t 18), none, [1, 2, 0, 1, 2], []⟩])
 (.ret))
 (.skip)))
(.seq (.reg [⟨some 19, .load 2 true (.t 8), none, [], []⟩,
 ⟨none, .store 2 (.t 6) (.t 19), none, [0, 0], []⟩,
 ⟨some 7, .mov (.c (.int .i64 0)), none, [1, 0, 1], []⟩])
(.ret))))),
[.c 6 2 true, .t 7], 20⟩
theorem v_span_Sum_ok : compF Try.prog 81 = some v_span_Sum := by kernel_rfl
def v_span_over : VFn := ⟨.seq (.reg [⟨some 7, .box (.t 3), none, [], []⟩,
 ⟨some 8, .mov (.c (.int .i64 0)), none, [], []⟩])
(.seq (.block 0
 (.seq (.reg [⟨some 11, .mov (.t 0), none, [], []⟩,
 ⟨some 12, .call 46 [(.t 11)], none, [0], []⟩,
 ⟨some 13, .un .not (.t 12), none, [1], []⟩,
 ⟨some 10, .mov (.t 13), none, [2, 1], []⟩])
 (.cond (.t 10)
 (.seq (.reg [⟨some 8, .mov (.c (.int .i64 5)), none, [], []⟩])
 (.ret))
 (.seq (.reg [⟨some 15, .mov (.t 1), none, [], []⟩,
 ⟨some 16, .mov (.t 2), none, [], []⟩,
 ⟨some 17, .bsl 1 [(.t 15), (.t 16)], none, [0, 1], []⟩,
 ⟨some 18, .call 118 [(.t 17)], none, [2], []⟩,
 ⟨some 19, .un .not (.t 18), none, [3], []⟩,
 ⟨some 20, .mov (.t 19), none, [4, 3], []⟩,
 ⟨some 21, .mov (.t 1), some (20, false), [5], []⟩,
 ⟨some 22, .mov (.t 2), some (20, false), [5], []⟩,
 ⟨some 23, .bin .geq (.t 21) (.t 22), some (20, false), [6, 7, 5], []⟩,
 ⟨some 24, .pick (.t 20) (.c (.bool true)) (.t 23), none, [5, 8], []⟩,
 ⟨some 25, .mov (.t 24), none, [9, 5], []⟩,
 ⟨some 26, .mov (.t 2), some (25, false), [10], []⟩,
 ⟨some 27, .mov (.t 1), some (25, false), [10], []⟩,
 ⟨some 28, .bin .sub (.t 26) (.t 27), some (25, false), [11, 12, 10], []⟩,
 ⟨some 29, .bin .gtr (.t 28) (.c (.int .i64 8000)), some (25, false), [13, 10], []⟩,
 ⟨some 30, .pick (.t 25) (.c (.bool true)) (.t 29), none, [10, 14], []⟩,
 ⟨some 14, .mov (.t 30), none, [15, 10], []⟩])
 (.cond (.t 14)
 (.seq (.reg [⟨some 8, .mov (.c (.int .i64 2)), none, [], []⟩])
 (.ret))
 (.skip))))))
(.seq (.seq (.reg [⟨some 31, .mov (.t 0), none, [], []⟩,
 ⟨some 32, .mov (.t 1), none, [], []⟩,
 ⟨some 33, .mov (.t 2), none, [], []⟩,
 ⟨some 34, .call 119 [(.t 31), (.t 32), (.t 33)], none, [0, 1, 2], []⟩])
(.block 1
 (.rng (.t 34) [35]
 (.reg [⟨some 9, .alloc [(.int .i64 0), (.int .i64 0), (.int .i64 0)], none, [], []⟩,
 ⟨none, .store 3 (.t 9) (.t 35), none, [0, 0], []⟩])
 (.block 2
 (.reg [⟨some 36, .load 1 false (.t 7), none, [], []⟩,
 ⟨some 37, .load 3 true (.t 9), none, [], []⟩,
 ⟨some 38, .callv (.t 36) [(.t 37)], none, [0, 1], []⟩])))))
(.seq (.reg [⟨some 8, .mov (.c (.int .i64 0)), none, [], []⟩])
(.ret)))),
[.t 8], 39⟩
theorem v_span_over_ok : compF Try.prog 101 = some v_span_over := by kernel_rfl
def v_span_Sum_1 : VFn := ⟨.seq (.reg [⟨some 2, .box (.t 0), none, [], []⟩])
(.reg [⟨some 3, .load 2 true (.t 1), none, [], []⟩,
 ⟨some 4, .fad 0 (.t 2), none, [], []⟩,
 ⟨some 5, .load 2 true (.t 4), none, [1], []⟩,
 ⟨some 6, .fad 2 (.t 2), none, [], []⟩,
 ⟨some 7, .load 1 false (.t 6), none, [3], []⟩,
 ⟨some 8, .call 103 [(.t 3), (.t 5), (.t 7)], none, [0, 2, 4], []⟩,
 ⟨none, .store 2 (.t 1) (.t 8), none, [5, 5, 0, 1, 2, 3, 4, 5], []⟩]),
[], 9⟩
theorem v_span_Sum_1_ok : compF Try.prog 102 = some v_span_Sum_1 := by kernel_rfl
def v_span_more : VFn := ⟨.seq (.reg [⟨some 3, .box (.t 0), none, [], []⟩,
 ⟨some 4, .box (.t 1), none, [], []⟩,
 ⟨some 6, .alloc [(.int .i64 0), (.int .i64 0)], none, [], []⟩])
(.seq (.reg [⟨some 7, .fad 0 (.t 3), none, [], []⟩,
 ⟨some 8, .load 1 false (.t 7), none, [0], []⟩,
 ⟨some 9, .mov (.t 2), none, [], []⟩,
 ⟨some 10, .fad 0 (.t 4), none, [], []⟩,
 ⟨some 11, .load 1 false (.t 10), none, [3], []⟩,
 ⟨some 12, .bin .mul (.t 9) (.t 11), none, [2, 4], []⟩,
 ⟨some 13, .bin .add (.t 8) (.t 12), none, [1, 5], []⟩,
 ⟨some 14, .fad 1 (.t 3), none, [], []⟩,
 ⟨some 15, .load 1 false (.t 14), none, [7], []⟩,
 ⟨some 16, .mov (.t 2), none, [], []⟩,
 ⟨some 17, .fad 1 (.t 4), none, [], []⟩,
 ⟨some 18, .load 1 false (.t 17), none, [10], []⟩,
 ⟨some 19, .bin .mul (.t 16) (.t 18), none, [9, 11], []⟩,
 ⟨some 20, .bin .add (.t 15) (.t 19), none, [8, 12], []⟩,
 ⟨some 21, .build [(.int .i64 0), (.int .i64 0)] [(0, 1, (.t 13)), (1, 1, (.t 20))], none, [6, 13], []⟩,
 ⟨none, .store 2 (.t 6) (.t 21), none, [14, 0, 1, 2, 3, 4, 5, 6, 7, 8, 9, 10, 11, 12, 13, 14], []⟩])
(.ret)),
[.c 6 2 true], 22⟩
theorem v_span_more_ok : compF Try.prog 103 = some v_span_more := by kernel_rfl
def v_span_in : VFn := ⟨.seq (.reg [⟨some 2, .mov (.c (.bool false)), none, [], []⟩])
(.seq (.reg [⟨some 3, .mov (.t 0), none, [], []⟩,
 ⟨some 4, .call 126 [(.t 3)], none, [0], []⟩,
 ⟨some 5, .bin .geq (.t 4) (.c (.int .i64 (-1125899906842624))), none, [1], []⟩,
 ⟨some 6, .mov (.t 5), none, [2, 1], []⟩,
 ⟨some 7, .mov (.t 0), some (6, true), [3], []⟩,
 ⟨some 8, .call 127 [(.t 7)], some (6, true), [4, 3, 3], []⟩,
 ⟨some 9, .bin .leq (.t 8) (.c (.int .i64 1125899906842624)), some (6, true), [5, 3], []⟩,
 ⟨some 10, .pick (.t 6) (.t 9) (.c (.bool false)), none, [3, 6], []⟩,
 ⟨some 2, .mov (.t 10), none, [7, 5, 0, 1, 2, 3, 4, 5, 6, 7], []⟩])
(.ret)),
[.t 2], 11⟩
theorem v_span_in_ok : compF Try.prog 118 = some v_span_in := by kernel_rfl
def v_span_runs : VFn := ⟨.seq (.reg [⟨some 3, .box (.t 0), none, [], []⟩,
 ⟨some 4, .box (.t 1), none, [], []⟩,
 ⟨some 5, .box (.t 2), none, [], []⟩,
 ⟨some 6, .mov (.c .nilf), none, [], []⟩])
(.seq (.reg [⟨some 7, .mkf 128 [] [(.t 4), (.t 3), (.t 5)], none, [], []⟩,
 ⟨some 6, .mov (.t 7), none, [0, 0], []⟩])
(.ret)),
[.t 6], 8⟩
theorem v_span_runs_ok : compF Try.prog 119 = some v_span_runs := by kernel_rfl
def v_span_runs_1 : VFn := ⟨.seq (.dreg [⟨some 9, .load 1 false (.t 1), none, [], []⟩,
 ⟨some 10, .load 1 false (.t 2), none, [], []⟩,
 ⟨some 11, .load 1 false (.t 1), none, [], []⟩,
 ⟨some 12, .call 75 [(.t 10), (.t 11)], none, [1, 2], []⟩,
 ⟨some 6, .alloc [(.int .i64 0), (.int .i64 0)], none, [], []⟩,
 ⟨some 5, .mov (.t 9), none, [0, 3, 0, 4], []⟩,
 ⟨none, .store 2 (.t 6) (.t 12), none, [4, 3, 5, 0, 1, 2, 3, 4, 5], []⟩])
(.seq (.seq (.reg [⟨some 13, .load 1 false (.t 2), none, [], []⟩,
 ⟨some 14, .len (.t 13), none, [0], []⟩,
 ⟨some 15, .mov (.c (.int .i64 0)), none, [], []⟩])
(.block 0
 (.loop
 (.seq (.reg [⟨some 16, .bin .lss (.t 15) (.t 14), none, [], []⟩])
 (.seq (.cond (.t 16)
 (.skip)
 (.exit 0))
 (.seq (.block 1
 (.seq (.reg [⟨some 17, .iad 3 (.t 13) (.t 15), none, [], []⟩,
 ⟨some 18, .load 3 true (.t 17), none, [0], []⟩,
 ⟨some 8, .alloc [(.int .i64 0), (.int .i64 0), (.int .i64 0)], none, [], []⟩,
 ⟨none, .store 3 (.t 8) (.t 18), none, [2, 1, 0, 1, 2], []⟩])
 (.seq (.seq (.reg [⟨some 19, .fad 0 (.t 8), none, [], []⟩,
 ⟨some 20, .load 1 false (.t 19), none, [0], []⟩,
 ⟨some 21, .load 1 false (.t 1), none, [], []⟩,
 ⟨some 22, .bin .leq (.t 20) (.t 21), none, [1, 2], []⟩,
 ⟨some 23, .mov (.t 22), none, [3], []⟩,
 ⟨some 24, .fad 0 (.t 8), some (23, false), [4], []⟩,
 ⟨some 25, .load 1 false (.t 24), some (23, false), [5, 4], []⟩,
 ⟨some 26, .load 1 false (.t 3), some (23, false), [4], []⟩,
 ⟨some 27, .bin .geq (.t 25) (.t 26), some (23, false), [6, 7, 4], []⟩,
 ⟨some 28, .pick (.t 23) (.c (.bool true)) (.t 27), none, [4, 8], []⟩])
 (.cond (.t 28)
 (.exit 1)
 (.skip)))
 (.seq (.seq (.reg [⟨some 29, .mov (.t 0), none, [], []⟩,
 ⟨some 30, .load 2 true (.t 6), none, [], []⟩,
 ⟨some 31, .fad 0 (.t 8), none, [], []⟩,
 ⟨some 32, .load 1 false (.t 31), none, [2], []⟩,
 ⟨some 33, .mov (.t 5), none, [], []⟩,
 ⟨some 34, .bin .sub (.t 32) (.t 33), none, [3, 4], []⟩,
 ⟨some 35, .build [(.int .i64 0), (.int .i64 0), (.int .i64 0)] [(0, 2, (.t 30)), (2, 1, (.t 34))], none, [1, 5], []⟩,
 ⟨some 36, .callv (.t 29) [(.t 35)], none, [0, 6], []⟩,
 ⟨some 37, .un .not (.t 36), none, [7], []⟩])
 (.cond (.t 37)
 (.ret)
 (.skip)))
 (.dreg [⟨some 38, .fad 0 (.t 8), none, [], []⟩,
 ⟨some 39, .load 1 false (.t 38), none, [0], []⟩,
 ⟨some 40, .fad 1 (.t 8), none, [], []⟩,
 ⟨some 41, .load 2 true (.t 40), none, [2], []⟩,
 ⟨some 5, .mov (.t 39), none, [1, 0, 1], []⟩,
 ⟨none, .store 2 (.t 6) (.t 41), none, [3, 4, 0, 1, 2, 3, 4], []⟩])))))
 (.reg [⟨some 42, .bin .add (.t 15) (.c (.int .i64 1)), none, [], []⟩,
 ⟨some 15, .mov (.t 42), none, [0], []⟩])))))))
(.reg [⟨some 43, .mov (.t 0), none, [], []⟩,
 ⟨some 44, .load 2 true (.t 6), none, [], []⟩,
 ⟨some 45, .load 1 false (.t 3), none, [], []⟩,
 ⟨some 46, .mov (.t 5), none, [], []⟩,
 ⟨some 47, .bin .sub (.t 45) (.t 46), none, [2, 3], []⟩,
 ⟨some 48, .build [(.int .i64 0), (.int .i64 0), (.int .i64 0)] [(0, 2, (.t 44)), (2, 1, (.t 47))], none, [1, 4], []⟩,
 ⟨some 49, .callv (.t 43) [(.t 48)], none, [0, 5], []⟩])),
[], 50⟩
theorem v_span_runs_1_ok : compF Try.prog 128 = some v_span_runs_1 := by kernel_rfl
end Go.Proofs.Ytglekfgoadehbaa.V
end
section
set_option linter.unusedSimpArgs false
set_option linter.unusedVariables false
/- What the package span's functions compute: in, runs, over, Low. -/
namespace Go.Proofs.Ytglekfgoadehbaa.V
open Go Go.Proofs
set_option maxRecDepth 100000
set_option maxHeartbeats 4000000
theorem MinI_v (x : Int) (r : List Int) (hr : r.length ≤ 1000000000) (t : Tok) : VPure Try.prog 126 [.sl ((x :: r).map num) t] (num (r.foldl min x)) := by
  obtain ⟨l, hl⟩ : ∃ l, x :: r = l := ⟨_, rfl⟩
  have h0 : l.getD 0 default = x := by rw [← hl]; rfl
  have hs : ∀ k, k < r.length → l.getD (k + 1) default = r[k]! := fun k hk => by rw [← hl]; simp [List.getD_eq_getElem?_getD, List.getElem?_eq_getElem hk]
  have hlen : (l.length : Int) = r.length + 1 := by rw [← hl]; simp
  rw [hl]
  have HS := Hid.mk hs
  clear hl hs
  refine VPure.of v_slices_Min_int64_int64_ok (Nat.le_of_ble_eq_true rfl) (fun Z st => ?_)
  simp only [v_slices_Min_int64_int64, ↓vD, vU, ↓vMd, vMu, VE.ev, VE.evs, retvs, tupOf, grab, vfill, vbsl, eqCells, eqCell, veqs, veqs1, vmnx, AV.isCell, AV.isUndef, Nat.reduceEqDiff, Nat.reduceAdd, Nat.reduceSub, Nat.reduceLeDiff, Nat.reduceLT, reduceIte, reduceCtorEq, Nat.reduceBEq, k_app, k_slc1]
  (repeat' (first | (simp (config := { maxDischargeDepth := 16 }) only [*, num, vX, Int.reduceLE, Int.reduceLT, Int.reduceGE, Int.reduceGT, Int.reduceBEq, Int.reduceBNe, Int.reduceAdd, Int.reduceSub, Int.reduceMul, Int.reduceNeg, ↓vD, vU, ↓vMd, vMu, VE.ev, VE.evs, retvs, tupOf, grab, vfill, vbsl, eqCells, eqCell, veqs, veqs1, vmnx, AV.isCell, AV.isUndef, Nat.reduceEqDiff, Nat.reduceAdd, Nat.reduceSub, Nat.reduceLeDiff, Nat.reduceLT, reduceIte, reduceCtorEq, Nat.reduceBEq]) | (simp (disch := first | assumption | omega | exact Seg.len _ | exact Vec.len _ | exact Leg.len _ | exact num_len _ | exact rowA_len _ | exact rowA_len | exact rowT_len _ | exact rowT_len | exact Seg.len | exact Vec.len | exact Leg.len | exact num_len | exact AV.slen _ _ | rfl) only [num, vP]) | (with_reducible (first | refine gsnd (fun _ => ?_) (fun _ => ?_) | refine csnd (fun _ => ?_) (fun _ => ?_) | refine gsd (fun _ => ?_) (fun _ => ?_) | refine csd (fun _ => ?_) (fun _ => ?_) | refine gsn (fun _ => ?_) (fun _ => ?_) | refine csn (fun _ => ?_) (fun _ => ?_))) | (with_reducible refine gs (fun _ => ?_) (fun _ => ?_)) | (with_reducible refine cs_ (fun _ => ?_) (fun _ => ?_)) | (with_reducible refine objQ_i (fun _ _ => ?_); (repeat (with_reducible refine imp_i (fun _ => ?_)))) | ((try with_reducible refine appK_a ?_); first | (with_reducible refine appD_F (by refine ⟨?_, ?_, ?_, ?_⟩ <;> (first | assumption | omega | exact St.has_add (by assumption) | (simp only [ins_has]; exact St.has_add (by assumption)) | (simp only [ins_has, fresh_ins, kill_ins, add_ins] at *; exact St.has_add (by assumption)) | (simp only [*, ins_has, has_full, St.has_add]; done) | (simp [-List.map_take, -List.map_drop, or_imp, forall_and, Seg.a, Vec.a, Leg.a, num, okEl, cells_agg, cells_int, cells_sl, cells_bool, AV.isCell]; done) | (simp; omega))) (fun _ _ => ?_)) | (with_reducible refine appD_V (by refine ⟨?_, ?_, ?_, ?_, ?_⟩ <;> (first | assumption | omega | exact St.has_add (by assumption) | (simp only [ins_has]; exact St.has_add (by assumption)) | (simp only [ins_has, fresh_ins, kill_ins, add_ins] at *; exact St.has_add (by assumption)) | (simp only [*, ins_has, has_full, St.has_add]; done) | (simp [-List.map_take, -List.map_drop, or_imp, forall_and, Seg.a, Vec.a, Leg.a, num, okEl, cells_agg, cells_int, cells_sl, cells_bool, AV.isCell]; done) | (simp; omega))) (fun _ _ => ?_))) | (with_reducible refine freshQ_i (fun _ _ => ?_)) | (with_reducible refine nilQ_i (fun _ _ => ?_))))
  refine loopp_of (len := r.length) (by simp only [asgL, dsts, List.cons_append, List.nil_append, List.append_nil]; rfl) (by simp only [noR, Bool.and_true, Bool.and_false]; rfl) (by omega) (fun k fr => fr.t 4 = .int .i64 ((k : Int) + 1) ∧ fr.t 3 = .int .i64 ((r.take k).foldl min x)) ?_ ?_ ?_
  · simp [↓vD, vU, ↓vMd, vMu, VE.ev, VE.evs, retvs, tupOf, grab, vfill, vbsl, eqCells, eqCell, veqs, veqs1, vmnx, AV.isCell, AV.isUndef, Nat.reduceEqDiff, Nat.reduceAdd, Nat.reduceSub, Nat.reduceLeDiff, Nat.reduceLT, reduceIte, reduceCtorEq, Nat.reduceBEq, k_app, k_slc1]
  · rintro k fr hk hw hfr hd ⟨h4, h3⟩
    have hg := HS.out k hk
    obtain ⟨y, hy⟩ : ∃ y, r[k]! = y := ⟨_, rfl⟩
    rw [hy] at hg
    have hfold : (r.take (k + 1)).foldl min x = min ((r.take k).foldl min x) y := by
      rw [List.take_add_one, List.getElem?_eq_getElem hk, List.foldl_append, ← hy, getElem!_pos r k hk]; rfl
    have hw2 : IntKind.i64.wrap ((k : Int) + 1 + 1) = (k : Int) + 1 + 1 := wrap_i64 _ (by omega) (by omega)
    (repeat' (first | (simp (config := { maxDischargeDepth := 16 }) only [*, num, toNat_succ, vmin2, vX, Int.reduceLE, Int.reduceLT, Int.reduceGE, Int.reduceGT, Int.reduceBEq, Int.reduceBNe, Int.reduceAdd, Int.reduceSub, Int.reduceMul, Int.reduceNeg, ↓vD, vU, ↓vMd, vMu, VE.ev, VE.evs, retvs, tupOf, grab, vfill, vbsl, eqCells, eqCell, veqs, veqs1, vmnx, AV.isCell, AV.isUndef, Nat.reduceEqDiff, Nat.reduceAdd, Nat.reduceSub, Nat.reduceLeDiff, Nat.reduceLT, reduceIte, reduceCtorEq, Nat.reduceBEq]) | (simp (disch := first | assumption | omega | exact Seg.len _ | exact Vec.len _ | exact Leg.len _ | exact num_len _ | exact rowA_len _ | exact rowA_len | exact rowT_len _ | exact rowT_len | exact Seg.len | exact Vec.len | exact Leg.len | exact num_len | exact AV.slen _ _ | rfl) only [num, toNat_succ, vmin2, vP]) | (with_reducible (first | refine gsnd (fun _ => ?_) (fun _ => ?_) | refine csnd (fun _ => ?_) (fun _ => ?_) | refine gsd (fun _ => ?_) (fun _ => ?_) | refine csd (fun _ => ?_) (fun _ => ?_) | refine gsn (fun _ => ?_) (fun _ => ?_) | refine csn (fun _ => ?_) (fun _ => ?_))) | (with_reducible refine gs (fun _ => ?_) (fun _ => ?_)) | (with_reducible refine cs_ (fun _ => ?_) (fun _ => ?_)) | (with_reducible refine objQ_i (fun _ _ => ?_); (repeat (with_reducible refine imp_i (fun _ => ?_)))) | ((try with_reducible refine appK_a ?_); first | (with_reducible refine appD_F (by refine ⟨?_, ?_, ?_, ?_⟩ <;> (first | assumption | omega | exact St.has_add (by assumption) | (simp only [ins_has]; exact St.has_add (by assumption)) | (simp only [ins_has, fresh_ins, kill_ins, add_ins] at *; exact St.has_add (by assumption)) | (simp only [*, ins_has, has_full, St.has_add]; done) | (simp [-List.map_take, -List.map_drop, or_imp, forall_and, Seg.a, Vec.a, Leg.a, num, okEl, cells_agg, cells_int, cells_sl, cells_bool, AV.isCell]; done) | (simp; omega))) (fun _ _ => ?_)) | (with_reducible refine appD_V (by refine ⟨?_, ?_, ?_, ?_, ?_⟩ <;> (first | assumption | omega | exact St.has_add (by assumption) | (simp only [ins_has]; exact St.has_add (by assumption)) | (simp only [ins_has, fresh_ins, kill_ins, add_ins] at *; exact St.has_add (by assumption)) | (simp only [*, ins_has, has_full, St.has_add]; done) | (simp [-List.map_take, -List.map_drop, or_imp, forall_and, Seg.a, Vec.a, Leg.a, num, okEl, cells_agg, cells_int, cells_sl, cells_bool, AV.isCell]; done) | (simp; omega))) (fun _ _ => ?_))) | (with_reducible refine freshQ_i (fun _ _ => ?_)) | (with_reducible refine nilQ_i (fun _ _ => ?_))))
  · rintro fr hfr hd ⟨h4, h3⟩
    rw [List.take_length] at h3
    (repeat' (first | (simp (config := { maxDischargeDepth := 16 }) only [*, num, vX, Int.reduceLE, Int.reduceLT, Int.reduceGE, Int.reduceGT, Int.reduceBEq, Int.reduceBNe, Int.reduceAdd, Int.reduceSub, Int.reduceMul, Int.reduceNeg, ↓vD, vU, ↓vMd, vMu, VE.ev, VE.evs, retvs, tupOf, grab, vfill, vbsl, eqCells, eqCell, veqs, veqs1, vmnx, AV.isCell, AV.isUndef, Nat.reduceEqDiff, Nat.reduceAdd, Nat.reduceSub, Nat.reduceLeDiff, Nat.reduceLT, reduceIte, reduceCtorEq, Nat.reduceBEq]) | (simp (disch := first | assumption | omega | exact Seg.len _ | exact Vec.len _ | exact Leg.len _ | exact num_len _ | exact rowA_len _ | exact rowA_len | exact rowT_len _ | exact rowT_len | exact Seg.len | exact Vec.len | exact Leg.len | exact num_len | exact AV.slen _ _ | rfl) only [num, vP]) | (with_reducible (first | refine gsnd (fun _ => ?_) (fun _ => ?_) | refine csnd (fun _ => ?_) (fun _ => ?_) | refine gsd (fun _ => ?_) (fun _ => ?_) | refine csd (fun _ => ?_) (fun _ => ?_) | refine gsn (fun _ => ?_) (fun _ => ?_) | refine csn (fun _ => ?_) (fun _ => ?_))) | (with_reducible refine gs (fun _ => ?_) (fun _ => ?_)) | (with_reducible refine cs_ (fun _ => ?_) (fun _ => ?_)) | (with_reducible refine objQ_i (fun _ _ => ?_); (repeat (with_reducible refine imp_i (fun _ => ?_)))) | ((try with_reducible refine appK_a ?_); first | (with_reducible refine appD_F (by refine ⟨?_, ?_, ?_, ?_⟩ <;> (first | assumption | omega | exact St.has_add (by assumption) | (simp only [ins_has]; exact St.has_add (by assumption)) | (simp only [ins_has, fresh_ins, kill_ins, add_ins] at *; exact St.has_add (by assumption)) | (simp only [*, ins_has, has_full, St.has_add]; done) | (simp [-List.map_take, -List.map_drop, or_imp, forall_and, Seg.a, Vec.a, Leg.a, num, okEl, cells_agg, cells_int, cells_sl, cells_bool, AV.isCell]; done) | (simp; omega))) (fun _ _ => ?_)) | (with_reducible refine appD_V (by refine ⟨?_, ?_, ?_, ?_, ?_⟩ <;> (first | assumption | omega | exact St.has_add (by assumption) | (simp only [ins_has]; exact St.has_add (by assumption)) | (simp only [ins_has, fresh_ins, kill_ins, add_ins] at *; exact St.has_add (by assumption)) | (simp only [*, ins_has, has_full, St.has_add]; done) | (simp [-List.map_take, -List.map_drop, or_imp, forall_and, Seg.a, Vec.a, Leg.a, num, okEl, cells_agg, cells_int, cells_sl, cells_bool, AV.isCell]; done) | (simp; omega))) (fun _ _ => ?_))) | (with_reducible refine freshQ_i (fun _ _ => ?_)) | (with_reducible refine nilQ_i (fun _ _ => ?_))))
theorem MaxI_v (x : Int) (r : List Int) (hr : r.length ≤ 1000000000) (t : Tok) : VPure Try.prog 127 [.sl ((x :: r).map num) t] (num (r.foldl max x)) := by
  obtain ⟨l, hl⟩ : ∃ l, x :: r = l := ⟨_, rfl⟩
  have h0 : l.getD 0 default = x := by rw [← hl]; rfl
  have hs : ∀ k, k < r.length → l.getD (k + 1) default = r[k]! := fun k hk => by rw [← hl]; simp [List.getD_eq_getElem?_getD, List.getElem?_eq_getElem hk]
  have hlen : (l.length : Int) = r.length + 1 := by rw [← hl]; simp
  rw [hl]
  have HS := Hid.mk hs
  clear hl hs
  refine VPure.of v_slices_Max_int64_int64_ok (Nat.le_of_ble_eq_true rfl) (fun Z st => ?_)
  simp only [v_slices_Max_int64_int64, ↓vD, vU, ↓vMd, vMu, VE.ev, VE.evs, retvs, tupOf, grab, vfill, vbsl, eqCells, eqCell, veqs, veqs1, vmnx, AV.isCell, AV.isUndef, Nat.reduceEqDiff, Nat.reduceAdd, Nat.reduceSub, Nat.reduceLeDiff, Nat.reduceLT, reduceIte, reduceCtorEq, Nat.reduceBEq, k_app, k_slc1]
  (repeat' (first | (simp (config := { maxDischargeDepth := 16 }) only [*, num, vX, Int.reduceLE, Int.reduceLT, Int.reduceGE, Int.reduceGT, Int.reduceBEq, Int.reduceBNe, Int.reduceAdd, Int.reduceSub, Int.reduceMul, Int.reduceNeg, ↓vD, vU, ↓vMd, vMu, VE.ev, VE.evs, retvs, tupOf, grab, vfill, vbsl, eqCells, eqCell, veqs, veqs1, vmnx, AV.isCell, AV.isUndef, Nat.reduceEqDiff, Nat.reduceAdd, Nat.reduceSub, Nat.reduceLeDiff, Nat.reduceLT, reduceIte, reduceCtorEq, Nat.reduceBEq]) | (simp (disch := first | assumption | omega | exact Seg.len _ | exact Vec.len _ | exact Leg.len _ | exact num_len _ | exact rowA_len _ | exact rowA_len | exact rowT_len _ | exact rowT_len | exact Seg.len | exact Vec.len | exact Leg.len | exact num_len | exact AV.slen _ _ | rfl) only [num, vP]) | (with_reducible (first | refine gsnd (fun _ => ?_) (fun _ => ?_) | refine csnd (fun _ => ?_) (fun _ => ?_) | refine gsd (fun _ => ?_) (fun _ => ?_) | refine csd (fun _ => ?_) (fun _ => ?_) | refine gsn (fun _ => ?_) (fun _ => ?_) | refine csn (fun _ => ?_) (fun _ => ?_))) | (with_reducible refine gs (fun _ => ?_) (fun _ => ?_)) | (with_reducible refine cs_ (fun _ => ?_) (fun _ => ?_)) | (with_reducible refine objQ_i (fun _ _ => ?_); (repeat (with_reducible refine imp_i (fun _ => ?_)))) | ((try with_reducible refine appK_a ?_); first | (with_reducible refine appD_F (by refine ⟨?_, ?_, ?_, ?_⟩ <;> (first | assumption | omega | exact St.has_add (by assumption) | (simp only [ins_has]; exact St.has_add (by assumption)) | (simp only [ins_has, fresh_ins, kill_ins, add_ins] at *; exact St.has_add (by assumption)) | (simp only [*, ins_has, has_full, St.has_add]; done) | (simp [-List.map_take, -List.map_drop, or_imp, forall_and, Seg.a, Vec.a, Leg.a, num, okEl, cells_agg, cells_int, cells_sl, cells_bool, AV.isCell]; done) | (simp; omega))) (fun _ _ => ?_)) | (with_reducible refine appD_V (by refine ⟨?_, ?_, ?_, ?_, ?_⟩ <;> (first | assumption | omega | exact St.has_add (by assumption) | (simp only [ins_has]; exact St.has_add (by assumption)) | (simp only [ins_has, fresh_ins, kill_ins, add_ins] at *; exact St.has_add (by assumption)) | (simp only [*, ins_has, has_full, St.has_add]; done) | (simp [-List.map_take, -List.map_drop, or_imp, forall_and, Seg.a, Vec.a, Leg.a, num, okEl, cells_agg, cells_int, cells_sl, cells_bool, AV.isCell]; done) | (simp; omega))) (fun _ _ => ?_))) | (with_reducible refine freshQ_i (fun _ _ => ?_)) | (with_reducible refine nilQ_i (fun _ _ => ?_))))
  refine loopp_of (len := r.length) (by simp only [asgL, dsts, List.cons_append, List.nil_append, List.append_nil]; rfl) (by simp only [noR, Bool.and_true, Bool.and_false]; rfl) (by omega) (fun k fr => fr.t 4 = .int .i64 ((k : Int) + 1) ∧ fr.t 3 = .int .i64 ((r.take k).foldl max x)) ?_ ?_ ?_
  · simp [↓vD, vU, ↓vMd, vMu, VE.ev, VE.evs, retvs, tupOf, grab, vfill, vbsl, eqCells, eqCell, veqs, veqs1, vmnx, AV.isCell, AV.isUndef, Nat.reduceEqDiff, Nat.reduceAdd, Nat.reduceSub, Nat.reduceLeDiff, Nat.reduceLT, reduceIte, reduceCtorEq, Nat.reduceBEq, k_app, k_slc1]
  · rintro k fr hk hw hfr hd ⟨h4, h3⟩
    have hg := HS.out k hk
    obtain ⟨y, hy⟩ : ∃ y, r[k]! = y := ⟨_, rfl⟩
    rw [hy] at hg
    have hfold : (r.take (k + 1)).foldl max x = max ((r.take k).foldl max x) y := by
      rw [List.take_add_one, List.getElem?_eq_getElem hk, List.foldl_append, ← hy, getElem!_pos r k hk]; rfl
    have hw2 : IntKind.i64.wrap ((k : Int) + 1 + 1) = (k : Int) + 1 + 1 := wrap_i64 _ (by omega) (by omega)
    (repeat' (first | (simp (config := { maxDischargeDepth := 16 }) only [*, num, toNat_succ, vmax2, vX, Int.reduceLE, Int.reduceLT, Int.reduceGE, Int.reduceGT, Int.reduceBEq, Int.reduceBNe, Int.reduceAdd, Int.reduceSub, Int.reduceMul, Int.reduceNeg, ↓vD, vU, ↓vMd, vMu, VE.ev, VE.evs, retvs, tupOf, grab, vfill, vbsl, eqCells, eqCell, veqs, veqs1, vmnx, AV.isCell, AV.isUndef, Nat.reduceEqDiff, Nat.reduceAdd, Nat.reduceSub, Nat.reduceLeDiff, Nat.reduceLT, reduceIte, reduceCtorEq, Nat.reduceBEq]) | (simp (disch := first | assumption | omega | exact Seg.len _ | exact Vec.len _ | exact Leg.len _ | exact num_len _ | exact rowA_len _ | exact rowA_len | exact rowT_len _ | exact rowT_len | exact Seg.len | exact Vec.len | exact Leg.len | exact num_len | exact AV.slen _ _ | rfl) only [num, toNat_succ, vmax2, vP]) | (with_reducible (first | refine gsnd (fun _ => ?_) (fun _ => ?_) | refine csnd (fun _ => ?_) (fun _ => ?_) | refine gsd (fun _ => ?_) (fun _ => ?_) | refine csd (fun _ => ?_) (fun _ => ?_) | refine gsn (fun _ => ?_) (fun _ => ?_) | refine csn (fun _ => ?_) (fun _ => ?_))) | (with_reducible refine gs (fun _ => ?_) (fun _ => ?_)) | (with_reducible refine cs_ (fun _ => ?_) (fun _ => ?_)) | (with_reducible refine objQ_i (fun _ _ => ?_); (repeat (with_reducible refine imp_i (fun _ => ?_)))) | ((try with_reducible refine appK_a ?_); first | (with_reducible refine appD_F (by refine ⟨?_, ?_, ?_, ?_⟩ <;> (first | assumption | omega | exact St.has_add (by assumption) | (simp only [ins_has]; exact St.has_add (by assumption)) | (simp only [ins_has, fresh_ins, kill_ins, add_ins] at *; exact St.has_add (by assumption)) | (simp only [*, ins_has, has_full, St.has_add]; done) | (simp [-List.map_take, -List.map_drop, or_imp, forall_and, Seg.a, Vec.a, Leg.a, num, okEl, cells_agg, cells_int, cells_sl, cells_bool, AV.isCell]; done) | (simp; omega))) (fun _ _ => ?_)) | (with_reducible refine appD_V (by refine ⟨?_, ?_, ?_, ?_, ?_⟩ <;> (first | assumption | omega | exact St.has_add (by assumption) | (simp only [ins_has]; exact St.has_add (by assumption)) | (simp only [ins_has, fresh_ins, kill_ins, add_ins] at *; exact St.has_add (by assumption)) | (simp only [*, ins_has, has_full, St.has_add]; done) | (simp [-List.map_take, -List.map_drop, or_imp, forall_and, Seg.a, Vec.a, Leg.a, num, okEl, cells_agg, cells_int, cells_sl, cells_bool, AV.isCell]; done) | (simp; omega))) (fun _ _ => ?_))) | (with_reducible refine freshQ_i (fun _ _ => ?_)) | (with_reducible refine nilQ_i (fun _ _ => ?_))))
  · rintro fr hfr hd ⟨h4, h3⟩
    rw [List.take_length] at h3
    (repeat' (first | (simp (config := { maxDischargeDepth := 16 }) only [*, num, vX, Int.reduceLE, Int.reduceLT, Int.reduceGE, Int.reduceGT, Int.reduceBEq, Int.reduceBNe, Int.reduceAdd, Int.reduceSub, Int.reduceMul, Int.reduceNeg, ↓vD, vU, ↓vMd, vMu, VE.ev, VE.evs, retvs, tupOf, grab, vfill, vbsl, eqCells, eqCell, veqs, veqs1, vmnx, AV.isCell, AV.isUndef, Nat.reduceEqDiff, Nat.reduceAdd, Nat.reduceSub, Nat.reduceLeDiff, Nat.reduceLT, reduceIte, reduceCtorEq, Nat.reduceBEq]) | (simp (disch := first | assumption | omega | exact Seg.len _ | exact Vec.len _ | exact Leg.len _ | exact num_len _ | exact rowA_len _ | exact rowA_len | exact rowT_len _ | exact rowT_len | exact Seg.len | exact Vec.len | exact Leg.len | exact num_len | exact AV.slen _ _ | rfl) only [num, vP]) | (with_reducible (first | refine gsnd (fun _ => ?_) (fun _ => ?_) | refine csnd (fun _ => ?_) (fun _ => ?_) | refine gsd (fun _ => ?_) (fun _ => ?_) | refine csd (fun _ => ?_) (fun _ => ?_) | refine gsn (fun _ => ?_) (fun _ => ?_) | refine csn (fun _ => ?_) (fun _ => ?_))) | (with_reducible refine gs (fun _ => ?_) (fun _ => ?_)) | (with_reducible refine cs_ (fun _ => ?_) (fun _ => ?_)) | (with_reducible refine objQ_i (fun _ _ => ?_); (repeat (with_reducible refine imp_i (fun _ => ?_)))) | ((try with_reducible refine appK_a ?_); first | (with_reducible refine appD_F (by refine ⟨?_, ?_, ?_, ?_⟩ <;> (first | assumption | omega | exact St.has_add (by assumption) | (simp only [ins_has]; exact St.has_add (by assumption)) | (simp only [ins_has, fresh_ins, kill_ins, add_ins] at *; exact St.has_add (by assumption)) | (simp only [*, ins_has, has_full, St.has_add]; done) | (simp [-List.map_take, -List.map_drop, or_imp, forall_and, Seg.a, Vec.a, Leg.a, num, okEl, cells_agg, cells_int, cells_sl, cells_bool, AV.isCell]; done) | (simp; omega))) (fun _ _ => ?_)) | (with_reducible refine appD_V (by refine ⟨?_, ?_, ?_, ?_, ?_⟩ <;> (first | assumption | omega | exact St.has_add (by assumption) | (simp only [ins_has]; exact St.has_add (by assumption)) | (simp only [ins_has, fresh_ins, kill_ins, add_ins] at *; exact St.has_add (by assumption)) | (simp only [*, ins_has, has_full, St.has_add]; done) | (simp [-List.map_take, -List.map_drop, or_imp, forall_and, Seg.a, Vec.a, Leg.a, num, okEl, cells_agg, cells_int, cells_sl, cells_bool, AV.isCell]; done) | (simp; omega))) (fun _ _ => ?_))) | (with_reducible refine freshQ_i (fun _ _ => ?_)) | (with_reducible refine nilQ_i (fun _ _ => ?_))))
theorem in2_v (a z : Int) (t : Tok) : VPure Try.prog 118 [.sl [.int .i64 a, .int .i64 z] t] (.bool (decide (-1125899906842624 ≤ min a z) && decide (max a z ≤ 1125899906842624))) := by
  have h1 := MinI_v a [z] (by simp) t
  have h2 := MaxI_v a [z] (by simp) t
  simp only [List.map_cons, List.map_nil, num, List.foldl_cons, List.foldl_nil] at h1 h2
  refine VPure.of v_span_in_ok (Nat.le_of_ble_eq_true rfl) (fun Z st => ?_)
  simp only [v_span_in, ↓vD, vU, ↓vMd, vMu, VE.ev, VE.evs, retvs, tupOf, grab, vfill, vbsl, eqCells, eqCell, veqs, veqs1, vmnx, AV.isCell, AV.isUndef, Nat.reduceEqDiff, Nat.reduceAdd, Nat.reduceSub, Nat.reduceLeDiff, Nat.reduceLT, reduceIte, reduceCtorEq, Nat.reduceBEq, k_app, k_slc1]
  (repeat' (first | (simp (config := { maxDischargeDepth := 16 }) only [*, vX, Int.reduceLE, Int.reduceLT, Int.reduceGE, Int.reduceGT, Int.reduceBEq, Int.reduceBNe, Int.reduceAdd, Int.reduceSub, Int.reduceMul, Int.reduceNeg, ↓vD, vU, ↓vMd, vMu, VE.ev, VE.evs, retvs, tupOf, grab, vfill, vbsl, eqCells, eqCell, veqs, veqs1, vmnx, AV.isCell, AV.isUndef, Nat.reduceEqDiff, Nat.reduceAdd, Nat.reduceSub, Nat.reduceLeDiff, Nat.reduceLT, reduceIte, reduceCtorEq, Nat.reduceBEq]) | (simp (disch := first | assumption | omega | exact Seg.len _ | exact Vec.len _ | exact Leg.len _ | exact num_len _ | exact rowA_len _ | exact rowA_len | exact rowT_len _ | exact rowT_len | exact Seg.len | exact Vec.len | exact Leg.len | exact num_len | exact AV.slen _ _ | rfl) only [vP]) | (with_reducible (first | refine gsnd (fun _ => ?_) (fun _ => ?_) | refine csnd (fun _ => ?_) (fun _ => ?_) | refine gsd (fun _ => ?_) (fun _ => ?_) | refine csd (fun _ => ?_) (fun _ => ?_) | refine gsn (fun _ => ?_) (fun _ => ?_) | refine csn (fun _ => ?_) (fun _ => ?_))) | (with_reducible refine gs (fun _ => ?_) (fun _ => ?_)) | (with_reducible refine cs_ (fun _ => ?_) (fun _ => ?_)) | (with_reducible refine objQ_i (fun _ _ => ?_); (repeat (with_reducible refine imp_i (fun _ => ?_)))) | ((try with_reducible refine appK_a ?_); first | (with_reducible refine appD_F (by refine ⟨?_, ?_, ?_, ?_⟩ <;> (first | assumption | omega | exact St.has_add (by assumption) | (simp only [ins_has]; exact St.has_add (by assumption)) | (simp only [ins_has, fresh_ins, kill_ins, add_ins] at *; exact St.has_add (by assumption)) | (simp only [*, ins_has, has_full, St.has_add]; done) | (simp [-List.map_take, -List.map_drop, or_imp, forall_and, Seg.a, Vec.a, Leg.a, num, okEl, cells_agg, cells_int, cells_sl, cells_bool, AV.isCell]; done) | (simp; omega))) (fun _ _ => ?_)) | (with_reducible refine appD_V (by refine ⟨?_, ?_, ?_, ?_, ?_⟩ <;> (first | assumption | omega | exact St.has_add (by assumption) | (simp only [ins_has]; exact St.has_add (by assumption)) | (simp only [ins_has, fresh_ins, kill_ins, add_ins] at *; exact St.has_add (by assumption)) | (simp only [*, ins_has, has_full, St.has_add]; done) | (simp [-List.map_take, -List.map_drop, or_imp, forall_and, Seg.a, Vec.a, Leg.a, num, okEl, cells_agg, cells_int, cells_sl, cells_bool, AV.isCell]; done) | (simp; omega))) (fun _ _ => ?_))) | (with_reducible refine freshQ_i (fun _ _ => ?_)) | (with_reducible refine nilQ_i (fun _ _ => ?_)) | (with_reducible first | refine callH_use (h1) ?_ | refine pureQ_use (h1) ?_) | (with_reducible first | refine callH_use (h2) ?_ | refine pureQ_use (h2) ?_)))
  (all_goals (first | rfl | (simp_all; done) | (simp_all <;> omega)))
def runA (q : Vec × Int) : AV := .agg [.int .i64 q.1.m, .int .i64 q.1.c, .int .i64 q.2]
theorem runs_c (f : List Seg) (a z : Int) (t : Tok) : VPure Try.prog 119 [.sl (f.map Seg.a) t, num a, num z] (.clo 128 [] [.iptr (num a) 0, .iptr (.sl (f.map Seg.a) t) 0, .iptr (num z) 0]) := fun Z st => by
  have h : VCalls Try.prog Z 119 [.sl (f.map Seg.a) t, num a, num z] st (fun r s => ∃ bf ba bz, st.objs bf = none ∧ st.objs ba = none ∧ st.objs bz = none ∧ ¬ ba = bf ∧ ¬ bz = bf ∧ ¬ bz = ba ∧ r = .clo 128 [] [.ptr ba 0, .ptr bf 0, .ptr bz 0] ∧
      s = ((st.ins bf (.cells [.sl (f.map Seg.a) t])).ins ba (.cells [.int .i64 a])).ins bz (.cells [.int .i64 z])) := by
    refine VCalls.of v_span_runs_ok (Nat.le_of_ble_eq_true rfl) ?_
    simp only [v_span_runs, ↓vD, vU, ↓vMd, vMu, VE.ev, VE.evs, retvs, tupOf, grab, vfill, vbsl, eqCells, eqCell, veqs, veqs1, vmnx, AV.isCell, AV.isUndef, Nat.reduceEqDiff, Nat.reduceAdd, Nat.reduceSub, Nat.reduceLeDiff, Nat.reduceLT, reduceIte, reduceCtorEq, Nat.reduceBEq, k_app, k_slc1]
    (repeat' (first | (simp (config := { maxDischargeDepth := 16 }) only [*, num, vX, Int.reduceLE, Int.reduceLT, Int.reduceGE, Int.reduceGT, Int.reduceBEq, Int.reduceBNe, Int.reduceAdd, Int.reduceSub, Int.reduceMul, Int.reduceNeg, ↓vD, vU, ↓vMd, vMu, VE.ev, VE.evs, retvs, tupOf, grab, vfill, vbsl, eqCells, eqCell, veqs, veqs1, vmnx, AV.isCell, AV.isUndef, Nat.reduceEqDiff, Nat.reduceAdd, Nat.reduceSub, Nat.reduceLeDiff, Nat.reduceLT, reduceIte, reduceCtorEq, Nat.reduceBEq]) | (simp (disch := first | assumption | omega | exact Seg.len _ | exact Vec.len _ | exact Leg.len _ | exact num_len _ | exact rowA_len _ | exact rowA_len | exact rowT_len _ | exact rowT_len | exact Seg.len | exact Vec.len | exact Leg.len | exact num_len | exact AV.slen _ _ | rfl) only [num, vP]) | (with_reducible (first | refine gsnd (fun _ => ?_) (fun _ => ?_) | refine csnd (fun _ => ?_) (fun _ => ?_) | refine gsd (fun _ => ?_) (fun _ => ?_) | refine csd (fun _ => ?_) (fun _ => ?_) | refine gsn (fun _ => ?_) (fun _ => ?_) | refine csn (fun _ => ?_) (fun _ => ?_))) | (with_reducible refine gs (fun _ => ?_) (fun _ => ?_)) | (with_reducible refine cs_ (fun _ => ?_) (fun _ => ?_)) | (with_reducible refine objQ_i (fun _ _ => ?_); (repeat (with_reducible refine imp_i (fun _ => ?_)))) | ((try with_reducible refine appK_a ?_); first | (with_reducible refine appD_F (by refine ⟨?_, ?_, ?_, ?_⟩ <;> (first | assumption | omega | exact St.has_add (by assumption) | (simp only [ins_has]; exact St.has_add (by assumption)) | (simp only [ins_has, fresh_ins, kill_ins, add_ins] at *; exact St.has_add (by assumption)) | (simp only [*, ins_has, has_full, St.has_add]; done) | (simp [-List.map_take, -List.map_drop, or_imp, forall_and, Seg.a, Vec.a, Leg.a, num, okEl, cells_agg, cells_int, cells_sl, cells_bool, AV.isCell]; done) | (simp; omega))) (fun _ _ => ?_)) | (with_reducible refine appD_V (by refine ⟨?_, ?_, ?_, ?_, ?_⟩ <;> (first | assumption | omega | exact St.has_add (by assumption) | (simp only [ins_has]; exact St.has_add (by assumption)) | (simp only [ins_has, fresh_ins, kill_ins, add_ins] at *; exact St.has_add (by assumption)) | (simp only [*, ins_has, has_full, St.has_add]; done) | (simp [-List.map_take, -List.map_drop, or_imp, forall_and, Seg.a, Vec.a, Leg.a, num, okEl, cells_agg, cells_int, cells_sl, cells_bool, AV.isCell]; done) | (simp; omega))) (fun _ _ => ?_))) | (with_reducible refine freshQ_i (fun _ _ => ?_)) | (with_reducible refine nilQ_i (fun _ _ => ?_))))
    rename_i bf hf ba ha n1 n2 bz hz n3 n4 n5 n6
    exact ⟨_, St.le.refl _, bf, ba, bz, hf, ha, hz, n1, n3, n5, rfl, rfl⟩
  refine h.wk ?_
  rintro _ _ ⟨bf, ba, bz, hf, ha, hz, n1, n2, n3, rfl, rfl⟩
  have n1' : ¬ bf = ba := fun e => n1 e.symm
  have n2' : ¬ bf = bz := fun e => n2 e.symm
  have n3' : ¬ ba = bz := fun e => n3 e.symm
  (refine ⟨_, st, (Wk.fz _ (b := ba) (x := num a) (by first | (simp only [St.ins, St.del, *, if_true, if_false, eq_self, not_false_eq_true, ite_true, ite_false]; first | done | rfl) | (simp [St.ins, St.del, *]; done) | (simp [St.ins, St.del, *]; rfl)) (by first | rfl | simp [okEl, AV.cells, AV.isCell]) (by first | exact Nat.zero_lt_succ _ | simp [AV.cells]) _).trans ((Wk.fz _ (b := bf) (x := .sl (f.map Seg.a) t) (by first | (simp only [St.ins, St.del, *, if_true, if_false, eq_self, not_false_eq_true, ite_true, ite_false]; first | done | rfl) | (simp [St.ins, St.del, *]; done) | (simp [St.ins, St.del, *]; rfl)) (by first | rfl | simp [okEl, AV.cells, AV.isCell]) (by first | exact Nat.zero_lt_succ _ | simp [AV.cells]) _).trans ((Wk.fz _ (b := bz) (x := num z) (by first | (simp only [St.ins, St.del, *, if_true, if_false, eq_self, not_false_eq_true, ite_true, ite_false]; first | done | rfl) | (simp [St.ins, St.del, *]; done) | (simp [St.ins, St.del, *]; rfl)) (by first | rfl | simp [okEl, AV.cells, AV.isCell]) (by first | exact Nat.zero_lt_succ _ | simp [AV.cells]) _).trans (Wk.le (by (refine ⟨fun i o e => ?_, fun _ h => h⟩; revert e; simp only [St.ins, St.del, add_objs, kill_objs]; (repeat' split); all_goals (first | exact id | (intros; contradiction) | (intros; subst_vars; contradiction) | (intros; simp_all; done) | (intros; subst_vars; simp_all; done)))) _))), ?_⟩; simp only [AV.sub, AV.subL, *, if_true, if_false, eq_self, ite_true, ite_false])
  try exact ⟨trivial, trivial⟩
theorem runs_it (f : List Seg) (hn : f.length ≤ 1000000000) (a z : Int) (ha : -1125899906842624 ≤ a) (hz : z ≤ 1125899906842624) (haz : a < z) (t : Tok) : VIter Try.prog 128 [] [.iptr (num a) 0, .iptr (.sl (f.map Seg.a) t) 0, .iptr (num z) 0] ((runsF f a z).map fun b => [runA b]) := by
  intro Y l I E S0 h0 hy
  obtain ⟨L, hL⟩ : ∃ L, runsF f a z = L := ⟨_, rfl⟩
  simp only [hL, List.length_map, List.getElem_map] at hy ⊢
  have hAt := At_v f (by omega) t a
  obtain ⟨u0, hu0⟩ : ∃ u, atF f a = u := ⟨_, rfl⟩
  rw [hu0] at hAt
  have HL : Hid (L = runsGo a z f a u0) := ⟨by rw [← hL, ← hu0]; rfl⟩
  have HY : Hid (∀ k it r, L.drop k = it :: r → ∀ S, I k S → VYield Try.prog Y l [runA it] S (YY I E k)) := ⟨fun k it r h => by
    obtain ⟨hk, rfl, _⟩ := drop_cons h
    exact hy k hk⟩
  clear hL hu0 hy
  refine VCalls.of v_span_runs_1_ok (Nat.le_of_ble_eq_true rfl) ?_
  simp only [v_span_runs_1, List.nil_append, List.cons_append, ↓vD, vU, ↓vMd, vMu, VE.ev, VE.evs, retvs, tupOf, grab, vfill, vbsl, eqCells, eqCell, veqs, veqs1, vmnx, AV.isCell, AV.isUndef, Nat.reduceEqDiff, Nat.reduceAdd, Nat.reduceSub, Nat.reduceLeDiff, Nat.reduceLT, reduceIte, reduceCtorEq, Nat.reduceBEq, k_app, k_slc1]
  (repeat' (first | (simp (config := { maxDischargeDepth := 16 }) only [*, num, vX, Int.reduceLE, Int.reduceLT, Int.reduceGE, Int.reduceGT, Int.reduceBEq, Int.reduceBNe, Int.reduceAdd, Int.reduceSub, Int.reduceMul, Int.reduceNeg, ↓vD, vU, ↓vMd, vMu, VE.ev, VE.evs, retvs, tupOf, grab, vfill, vbsl, eqCells, eqCell, veqs, veqs1, vmnx, AV.isCell, AV.isUndef, Nat.reduceEqDiff, Nat.reduceAdd, Nat.reduceSub, Nat.reduceLeDiff, Nat.reduceLT, reduceIte, reduceCtorEq, Nat.reduceBEq]) | (simp (disch := first | assumption | omega | exact Seg.len _ | exact Vec.len _ | exact Leg.len _ | exact num_len _ | exact rowA_len _ | exact rowA_len | exact rowT_len _ | exact rowT_len | exact Seg.len | exact Vec.len | exact Leg.len | exact num_len | exact AV.slen _ _ | rfl) only [num, vP]) | (with_reducible (first | refine gsnd (fun _ => ?_) (fun _ => ?_) | refine csnd (fun _ => ?_) (fun _ => ?_) | refine gsd (fun _ => ?_) (fun _ => ?_) | refine csd (fun _ => ?_) (fun _ => ?_) | refine gsn (fun _ => ?_) (fun _ => ?_) | refine csn (fun _ => ?_) (fun _ => ?_))) | (with_reducible refine gs (fun _ => ?_) (fun _ => ?_)) | (with_reducible refine cs_ (fun _ => ?_) (fun _ => ?_)) | (with_reducible refine objQ_i (fun _ _ => ?_); (repeat (with_reducible refine imp_i (fun _ => ?_)))) | ((try with_reducible refine appK_a ?_); first | (with_reducible refine appD_F (by refine ⟨?_, ?_, ?_, ?_⟩ <;> (first | assumption | omega | exact St.has_add (by assumption) | (simp only [ins_has]; exact St.has_add (by assumption)) | (simp only [ins_has, fresh_ins, kill_ins, add_ins] at *; exact St.has_add (by assumption)) | (simp only [*, ins_has, has_full, St.has_add]; done) | (simp [-List.map_take, -List.map_drop, or_imp, forall_and, Seg.a, Vec.a, Leg.a, num, okEl, cells_agg, cells_int, cells_sl, cells_bool, AV.isCell]; done) | (simp; omega))) (fun _ _ => ?_)) | (with_reducible refine appD_V (by refine ⟨?_, ?_, ?_, ?_, ?_⟩ <;> (first | assumption | omega | exact St.has_add (by assumption) | (simp only [ins_has]; exact St.has_add (by assumption)) | (simp only [ins_has, fresh_ins, kill_ins, add_ins] at *; exact St.has_add (by assumption)) | (simp only [*, ins_has, has_full, St.has_add]; done) | (simp [-List.map_take, -List.map_drop, or_imp, forall_and, Seg.a, Vec.a, Leg.a, num, okEl, cells_agg, cells_int, cells_sl, cells_bool, AV.isCell]; done) | (simp; omega))) (fun _ _ => ?_))) | (with_reducible refine freshQ_i (fun _ _ => ?_)) | (with_reducible refine nilQ_i (fun _ _ => ?_)) | (with_reducible first | refine callH_use (hAt) ?_ | refine pureQ_use (hAt) ?_)))
  rename_i b6 h6
  refine loopf_of (len := f.length) (by simp only [asgL, dsts, List.cons_append, List.nil_append, List.append_nil]; rfl) (by simp only [noR, Bool.and_true, Bool.and_false]; rfl) (by omega) (fun k fr s => ∃ (j : Nat) (p : Int) (u : Vec) (S : St), s = S.ins b6 (.cells [.int .i64 u.m, .int .i64 u.c])
    ∧ fr.t 15 = .int .i64 k ∧ fr.t 5 = .int .i64 p ∧ I j S ∧ S.objs b6 = none ∧ j ≤ L.length ∧ (a ≤ p ∧ p ≤ z) ∧ Hid (L.drop j = runsGo a z (f.drop k) p u)) ?_ ?_ ?_
  · exact ⟨0, a, u0, S0, rfl, by simp [↓vD, vU, ↓vMd, vMu, VE.ev, VE.evs, retvs, tupOf, grab, vfill, vbsl, eqCells, eqCell, veqs, veqs1, vmnx, AV.isCell, AV.isUndef, Nat.reduceEqDiff, Nat.reduceAdd, Nat.reduceSub, Nat.reduceLeDiff, Nat.reduceLT, reduceIte, reduceCtorEq, Nat.reduceBEq, k_app, k_slc1], by simp [↓vD, vU, ↓vMd, vMu, VE.ev, VE.evs, retvs, tupOf, grab, vfill, vbsl, eqCells, eqCell, veqs, veqs1, vmnx, AV.isCell, AV.isUndef, Nat.reduceEqDiff, Nat.reduceAdd, Nat.reduceSub, Nat.reduceLeDiff, Nat.reduceLT, reduceIte, reduceCtorEq, Nat.reduceBEq, k_app, k_slc1], h0, h6, by omega, by omega, ⟨by rw [HL.out]; rfl⟩⟩
  · rintro k fr s hk hwr hfr hd ⟨j, p, u, S, rfl, h15, h5, hI, hS6, hj, hp, HK⟩
    obtain ⟨x, hx⟩ : ∃ x, f[k] = x := ⟨_, rfl⟩
    have hdr : f.drop k = x :: f.drop (k + 1) := by rw [List.drop_eq_getElem_cons hk, hx]
    have hK := HK.out
    rw [hdr, runsGo] at hK
    by_cases hskip : x.t ≤ a ∨ z ≤ x.t
    · have HN : Hid (L.drop j = runsGo a z (f.drop (k + 1)) p u) := ⟨by rw [hK, if_pos hskip]⟩
      clear hK hdr HK
      (repeat' (first | (simp (config := { maxDischargeDepth := 16 }) only [*, num, Seg.a, vX, Int.reduceLE, Int.reduceLT, Int.reduceGE, Int.reduceGT, Int.reduceBEq, Int.reduceBNe, Int.reduceAdd, Int.reduceSub, Int.reduceMul, Int.reduceNeg, ↓vD, vU, ↓vMd, vMu, VE.ev, VE.evs, retvs, tupOf, grab, vfill, vbsl, eqCells, eqCell, veqs, veqs1, vmnx, AV.isCell, AV.isUndef, Nat.reduceEqDiff, Nat.reduceAdd, Nat.reduceSub, Nat.reduceLeDiff, Nat.reduceLT, reduceIte, reduceCtorEq, Nat.reduceBEq]) | (simp (disch := first | assumption | omega | exact Seg.len _ | exact Vec.len _ | exact Leg.len _ | exact num_len _ | exact rowA_len _ | exact rowA_len | exact rowT_len _ | exact rowT_len | exact Seg.len | exact Vec.len | exact Leg.len | exact num_len | exact AV.slen _ _ | rfl) only [num, Seg.a, vP]) | (with_reducible (first | refine gsnd (fun _ => ?_) (fun _ => ?_) | refine csnd (fun _ => ?_) (fun _ => ?_) | refine gsd (fun _ => ?_) (fun _ => ?_) | refine csd (fun _ => ?_) (fun _ => ?_) | refine gsn (fun _ => ?_) (fun _ => ?_) | refine csn (fun _ => ?_) (fun _ => ?_))) | (with_reducible refine gs (fun _ => ?_) (fun _ => ?_)) | (with_reducible refine cs_ (fun _ => ?_) (fun _ => ?_)) | (with_reducible refine objQ_i (fun _ _ => ?_); (repeat (with_reducible refine imp_i (fun _ => ?_)))) | ((try with_reducible refine appK_a ?_); first | (with_reducible refine appD_F (by refine ⟨?_, ?_, ?_, ?_⟩ <;> (first | assumption | omega | exact St.has_add (by assumption) | (simp only [ins_has]; exact St.has_add (by assumption)) | (simp only [ins_has, fresh_ins, kill_ins, add_ins] at *; exact St.has_add (by assumption)) | (simp only [*, ins_has, has_full, St.has_add]; done) | (simp [-List.map_take, -List.map_drop, or_imp, forall_and, Seg.a, Vec.a, Leg.a, num, okEl, cells_agg, cells_int, cells_sl, cells_bool, AV.isCell]; done) | (simp; omega))) (fun _ _ => ?_)) | (with_reducible refine appD_V (by refine ⟨?_, ?_, ?_, ?_, ?_⟩ <;> (first | assumption | omega | exact St.has_add (by assumption) | (simp only [ins_has]; exact St.has_add (by assumption)) | (simp only [ins_has, fresh_ins, kill_ins, add_ins] at *; exact St.has_add (by assumption)) | (simp only [*, ins_has, has_full, St.has_add]; done) | (simp [-List.map_take, -List.map_drop, or_imp, forall_and, Seg.a, Vec.a, Leg.a, num, okEl, cells_agg, cells_int, cells_sl, cells_bool, AV.isCell]; done) | (simp; omega))) (fun _ _ => ?_))) | (with_reducible refine freshQ_i (fun _ _ => ?_)) | (with_reducible refine nilQ_i (fun _ _ => ?_))))
      all_goals first | exact ⟨_, by (refine ⟨fun i o e => ?_, fun _ h => h⟩; revert e; simp only [St.ins, St.del, add_objs, kill_objs]; (repeat' split); all_goals (first | exact id | (intros; contradiction) | (intros; subst_vars; contradiction) | (intros; simp_all; done) | (intros; subst_vars; simp_all; done))), j, p, u, S, rfl, rfl, hI, hS6, hj, hp, HN⟩ | omega
    · rw [if_neg hskip] at hK
      have HN : Hid (L.drop j = (u, x.t - p) :: runsGo a z (f.drop (k + 1)) x.t x.v) := ⟨hK⟩
      clear hK hdr HK
      (repeat' (first | (simp (config := { maxDischargeDepth := 16 }) only [*, num, Seg.a, vX, Int.reduceLE, Int.reduceLT, Int.reduceGE, Int.reduceGT, Int.reduceBEq, Int.reduceBNe, Int.reduceAdd, Int.reduceSub, Int.reduceMul, Int.reduceNeg, ↓vD, vU, ↓vMd, vMu, VE.ev, VE.evs, retvs, tupOf, grab, vfill, vbsl, eqCells, eqCell, veqs, veqs1, vmnx, AV.isCell, AV.isUndef, Nat.reduceEqDiff, Nat.reduceAdd, Nat.reduceSub, Nat.reduceLeDiff, Nat.reduceLT, reduceIte, reduceCtorEq, Nat.reduceBEq]) | (simp (disch := first | assumption | omega | exact Seg.len _ | exact Vec.len _ | exact Leg.len _ | exact num_len _ | exact rowA_len _ | exact rowA_len | exact rowT_len _ | exact rowT_len | exact Seg.len | exact Vec.len | exact Leg.len | exact num_len | exact AV.slen _ _ | rfl) only [num, Seg.a, vP]) | (with_reducible (first | refine gsnd (fun _ => ?_) (fun _ => ?_) | refine csnd (fun _ => ?_) (fun _ => ?_) | refine gsd (fun _ => ?_) (fun _ => ?_) | refine csd (fun _ => ?_) (fun _ => ?_) | refine gsn (fun _ => ?_) (fun _ => ?_) | refine csn (fun _ => ?_) (fun _ => ?_))) | (with_reducible refine gs (fun _ => ?_) (fun _ => ?_)) | (with_reducible refine cs_ (fun _ => ?_) (fun _ => ?_)) | (with_reducible refine objQ_i (fun _ _ => ?_); (repeat (with_reducible refine imp_i (fun _ => ?_)))) | ((try with_reducible refine appK_a ?_); first | (with_reducible refine appD_F (by refine ⟨?_, ?_, ?_, ?_⟩ <;> (first | assumption | omega | exact St.has_add (by assumption) | (simp only [ins_has]; exact St.has_add (by assumption)) | (simp only [ins_has, fresh_ins, kill_ins, add_ins] at *; exact St.has_add (by assumption)) | (simp only [*, ins_has, has_full, St.has_add]; done) | (simp [-List.map_take, -List.map_drop, or_imp, forall_and, Seg.a, Vec.a, Leg.a, num, okEl, cells_agg, cells_int, cells_sl, cells_bool, AV.isCell]; done) | (simp; omega))) (fun _ _ => ?_)) | (with_reducible refine appD_V (by refine ⟨?_, ?_, ?_, ?_, ?_⟩ <;> (first | assumption | omega | exact St.has_add (by assumption) | (simp only [ins_has]; exact St.has_add (by assumption)) | (simp only [ins_has, fresh_ins, kill_ins, add_ins] at *; exact St.has_add (by assumption)) | (simp only [*, ins_has, has_full, St.has_add]; done) | (simp [-List.map_take, -List.map_drop, or_imp, forall_and, Seg.a, Vec.a, Leg.a, num, okEl, cells_agg, cells_int, cells_sl, cells_bool, AV.isCell]; done) | (simp; omega))) (fun _ _ => ?_))) | (with_reducible refine freshQ_i (fun _ _ => ?_)) | (with_reducible refine nilQ_i (fun _ _ => ?_))))
      rename_i b8 h8 n86 n68
      refine yieldH_then (((HY.out j _ _ HN.out S hI).frame b6 _ hS6).frame b8 _ (by simp only [ins_objs, kill_objs, add_objs, *, if_false, if_true, not_false_eq_true, ite_some_none, and_self, and_true, true_and])) rfl ?_
      rintro _ _ ⟨_, ⟨s0, hyy, q6, rfl⟩, q8, rfl⟩
      obtain ⟨hj2, _, hd2⟩ := drop_cons HN.out
      have q8' : s0.objs b8 = none := by simpa only [ins_objs, n86, if_false] using q8
      rcases hyy with ⟨rfl, S', hI', hle'⟩ | ⟨rfl, S', hE', hle'⟩
      · have HN2 : Hid (L.drop (j + 1) = runsGo a z (f.drop (k + 1)) x.t x.v) := ⟨hd2⟩
        clear HN hd2
        (repeat' (first | (simp (config := { maxDischargeDepth := 16 }) only [*, num, Seg.a, vX, Int.reduceLE, Int.reduceLT, Int.reduceGE, Int.reduceGT, Int.reduceBEq, Int.reduceBNe, Int.reduceAdd, Int.reduceSub, Int.reduceMul, Int.reduceNeg, ↓vD, vU, ↓vMd, vMu, VE.ev, VE.evs, retvs, tupOf, grab, vfill, vbsl, eqCells, eqCell, veqs, veqs1, vmnx, AV.isCell, AV.isUndef, Nat.reduceEqDiff, Nat.reduceAdd, Nat.reduceSub, Nat.reduceLeDiff, Nat.reduceLT, reduceIte, reduceCtorEq, Nat.reduceBEq]) | (simp (disch := first | assumption | omega | exact Seg.len _ | exact Vec.len _ | exact Leg.len _ | exact num_len _ | exact rowA_len _ | exact rowA_len | exact rowT_len _ | exact rowT_len | exact Seg.len | exact Vec.len | exact Leg.len | exact num_len | exact AV.slen _ _ | rfl) only [num, Seg.a, vP]) | (with_reducible (first | refine gsnd (fun _ => ?_) (fun _ => ?_) | refine csnd (fun _ => ?_) (fun _ => ?_) | refine gsd (fun _ => ?_) (fun _ => ?_) | refine csd (fun _ => ?_) (fun _ => ?_) | refine gsn (fun _ => ?_) (fun _ => ?_) | refine csn (fun _ => ?_) (fun _ => ?_))) | (with_reducible refine gs (fun _ => ?_) (fun _ => ?_)) | (with_reducible refine cs_ (fun _ => ?_) (fun _ => ?_)) | (with_reducible refine objQ_i (fun _ _ => ?_); (repeat (with_reducible refine imp_i (fun _ => ?_)))) | ((try with_reducible refine appK_a ?_); first | (with_reducible refine appD_F (by refine ⟨?_, ?_, ?_, ?_⟩ <;> (first | assumption | omega | exact St.has_add (by assumption) | (simp only [ins_has]; exact St.has_add (by assumption)) | (simp only [ins_has, fresh_ins, kill_ins, add_ins] at *; exact St.has_add (by assumption)) | (simp only [*, ins_has, has_full, St.has_add]; done) | (simp [-List.map_take, -List.map_drop, or_imp, forall_and, Seg.a, Vec.a, Leg.a, num, okEl, cells_agg, cells_int, cells_sl, cells_bool, AV.isCell]; done) | (simp; omega))) (fun _ _ => ?_)) | (with_reducible refine appD_V (by refine ⟨?_, ?_, ?_, ?_, ?_⟩ <;> (first | assumption | omega | exact St.has_add (by assumption) | (simp only [ins_has]; exact St.has_add (by assumption)) | (simp only [ins_has, fresh_ins, kill_ins, add_ins] at *; exact St.has_add (by assumption)) | (simp only [*, ins_has, has_full, St.has_add]; done) | (simp [-List.map_take, -List.map_drop, or_imp, forall_and, Seg.a, Vec.a, Leg.a, num, okEl, cells_agg, cells_int, cells_sl, cells_bool, AV.isCell]; done) | (simp; omega))) (fun _ _ => ?_))) | (with_reducible refine freshQ_i (fun _ _ => ?_)) | (with_reducible refine nilQ_i (fun _ _ => ?_))))
        exact ⟨_, (St.le.ins hle' b6 _).trans (by (refine ⟨fun i o e => ?_, fun _ h => h⟩; revert e; simp only [St.ins, St.del, add_objs, kill_objs]; (repeat' split); all_goals (first | exact id | (intros; contradiction) | (intros; subst_vars; contradiction) | (intros; simp_all; done) | (intros; subst_vars; simp_all; done)))), j + 1, x.t, x.v, S', rfl, rfl, hI', hle'.none q6, by omega, by omega, HN2⟩
      · (repeat' (first | (simp (config := { maxDischargeDepth := 16 }) only [*, num, Seg.a, vX, Int.reduceLE, Int.reduceLT, Int.reduceGE, Int.reduceGT, Int.reduceBEq, Int.reduceBNe, Int.reduceAdd, Int.reduceSub, Int.reduceMul, Int.reduceNeg, ↓vD, vU, ↓vMd, vMu, VE.ev, VE.evs, retvs, tupOf, grab, vfill, vbsl, eqCells, eqCell, veqs, veqs1, vmnx, AV.isCell, AV.isUndef, Nat.reduceEqDiff, Nat.reduceAdd, Nat.reduceSub, Nat.reduceLeDiff, Nat.reduceLT, reduceIte, reduceCtorEq, Nat.reduceBEq]) | (simp (disch := first | assumption | omega | exact Seg.len _ | exact Vec.len _ | exact Leg.len _ | exact num_len _ | exact rowA_len _ | exact rowA_len | exact rowT_len _ | exact rowT_len | exact Seg.len | exact Vec.len | exact Leg.len | exact num_len | exact AV.slen _ _ | rfl) only [num, Seg.a, vP]) | (with_reducible (first | refine gsnd (fun _ => ?_) (fun _ => ?_) | refine csnd (fun _ => ?_) (fun _ => ?_) | refine gsd (fun _ => ?_) (fun _ => ?_) | refine csd (fun _ => ?_) (fun _ => ?_) | refine gsn (fun _ => ?_) (fun _ => ?_) | refine csn (fun _ => ?_) (fun _ => ?_))) | (with_reducible refine gs (fun _ => ?_) (fun _ => ?_)) | (with_reducible refine cs_ (fun _ => ?_) (fun _ => ?_)) | (with_reducible refine objQ_i (fun _ _ => ?_); (repeat (with_reducible refine imp_i (fun _ => ?_)))) | ((try with_reducible refine appK_a ?_); first | (with_reducible refine appD_F (by refine ⟨?_, ?_, ?_, ?_⟩ <;> (first | assumption | omega | exact St.has_add (by assumption) | (simp only [ins_has]; exact St.has_add (by assumption)) | (simp only [ins_has, fresh_ins, kill_ins, add_ins] at *; exact St.has_add (by assumption)) | (simp only [*, ins_has, has_full, St.has_add]; done) | (simp [-List.map_take, -List.map_drop, or_imp, forall_and, Seg.a, Vec.a, Leg.a, num, okEl, cells_agg, cells_int, cells_sl, cells_bool, AV.isCell]; done) | (simp; omega))) (fun _ _ => ?_)) | (with_reducible refine appD_V (by refine ⟨?_, ?_, ?_, ?_, ?_⟩ <;> (first | assumption | omega | exact St.has_add (by assumption) | (simp only [ins_has]; exact St.has_add (by assumption)) | (simp only [ins_has, fresh_ins, kill_ins, add_ins] at *; exact St.has_add (by assumption)) | (simp only [*, ins_has, has_full, St.has_add]; done) | (simp [-List.map_take, -List.map_drop, or_imp, forall_and, Seg.a, Vec.a, Leg.a, num, okEl, cells_agg, cells_int, cells_sl, cells_bool, AV.isCell]; done) | (simp; omega))) (fun _ _ => ?_))) | (with_reducible refine freshQ_i (fun _ _ => ?_)) | (with_reducible refine nilQ_i (fun _ _ => ?_))))
        exact ⟨_, St.le.refl _, S', .inr hE', hle'.trans (by (refine ⟨fun i o e => ?_, fun _ h => h⟩; revert e; simp only [St.ins, St.del, add_objs, kill_objs]; (repeat' split); all_goals (first | exact id | (intros; contradiction) | (intros; subst_vars; contradiction) | (intros; simp_all; done) | (intros; subst_vars; simp_all; done))))⟩
  · rintro fr s hfr hd ⟨j, p, u, S, rfl, h15, h5, hI, hS6, hj, hp, HK⟩
    rw [List.drop_length, runsGo] at HK
    (repeat' (first | (simp (config := { maxDischargeDepth := 16 }) only [*, num, Seg.a, vX, Int.reduceLE, Int.reduceLT, Int.reduceGE, Int.reduceGT, Int.reduceBEq, Int.reduceBNe, Int.reduceAdd, Int.reduceSub, Int.reduceMul, Int.reduceNeg, ↓vD, vU, ↓vMd, vMu, VE.ev, VE.evs, retvs, tupOf, grab, vfill, vbsl, eqCells, eqCell, veqs, veqs1, vmnx, AV.isCell, AV.isUndef, Nat.reduceEqDiff, Nat.reduceAdd, Nat.reduceSub, Nat.reduceLeDiff, Nat.reduceLT, reduceIte, reduceCtorEq, Nat.reduceBEq]) | (simp (disch := first | assumption | omega | exact Seg.len _ | exact Vec.len _ | exact Leg.len _ | exact num_len _ | exact rowA_len _ | exact rowA_len | exact rowT_len _ | exact rowT_len | exact Seg.len | exact Vec.len | exact Leg.len | exact num_len | exact AV.slen _ _ | rfl) only [num, Seg.a, vP]) | (with_reducible (first | refine gsnd (fun _ => ?_) (fun _ => ?_) | refine csnd (fun _ => ?_) (fun _ => ?_) | refine gsd (fun _ => ?_) (fun _ => ?_) | refine csd (fun _ => ?_) (fun _ => ?_) | refine gsn (fun _ => ?_) (fun _ => ?_) | refine csn (fun _ => ?_) (fun _ => ?_))) | (with_reducible refine gs (fun _ => ?_) (fun _ => ?_)) | (with_reducible refine cs_ (fun _ => ?_) (fun _ => ?_)) | (with_reducible refine objQ_i (fun _ _ => ?_); (repeat (with_reducible refine imp_i (fun _ => ?_)))) | ((try with_reducible refine appK_a ?_); first | (with_reducible refine appD_F (by refine ⟨?_, ?_, ?_, ?_⟩ <;> (first | assumption | omega | exact St.has_add (by assumption) | (simp only [ins_has]; exact St.has_add (by assumption)) | (simp only [ins_has, fresh_ins, kill_ins, add_ins] at *; exact St.has_add (by assumption)) | (simp only [*, ins_has, has_full, St.has_add]; done) | (simp [-List.map_take, -List.map_drop, or_imp, forall_and, Seg.a, Vec.a, Leg.a, num, okEl, cells_agg, cells_int, cells_sl, cells_bool, AV.isCell]; done) | (simp; omega))) (fun _ _ => ?_)) | (with_reducible refine appD_V (by refine ⟨?_, ?_, ?_, ?_, ?_⟩ <;> (first | assumption | omega | exact St.has_add (by assumption) | (simp only [ins_has]; exact St.has_add (by assumption)) | (simp only [ins_has, fresh_ins, kill_ins, add_ins] at *; exact St.has_add (by assumption)) | (simp only [*, ins_has, has_full, St.has_add]; done) | (simp [-List.map_take, -List.map_drop, or_imp, forall_and, Seg.a, Vec.a, Leg.a, num, okEl, cells_agg, cells_int, cells_sl, cells_bool, AV.isCell]; done) | (simp; omega))) (fun _ _ => ?_))) | (with_reducible refine freshQ_i (fun _ _ => ?_)) | (with_reducible refine nilQ_i (fun _ _ => ?_))))
    refine yieldH_then ((HY.out j _ _ HK.out S hI).frame b6 _ hS6) rfl ?_
    rintro _ _ ⟨s0, hyy, q6, rfl⟩
    obtain ⟨hj2, _, hd2⟩ := drop_cons HK.out
    have hjl : j + 1 = L.length := by have := List.drop_eq_nil_iff.1 hd2; omega
    rcases hyy with ⟨rfl, S', hI', hle'⟩ | ⟨rfl, S', hE', hle'⟩
    · rw [hjl] at hI'
      (repeat' (first | (simp (config := { maxDischargeDepth := 16 }) only [*, num, Seg.a, vX, Int.reduceLE, Int.reduceLT, Int.reduceGE, Int.reduceGT, Int.reduceBEq, Int.reduceBNe, Int.reduceAdd, Int.reduceSub, Int.reduceMul, Int.reduceNeg, ↓vD, vU, ↓vMd, vMu, VE.ev, VE.evs, retvs, tupOf, grab, vfill, vbsl, eqCells, eqCell, veqs, veqs1, vmnx, AV.isCell, AV.isUndef, Nat.reduceEqDiff, Nat.reduceAdd, Nat.reduceSub, Nat.reduceLeDiff, Nat.reduceLT, reduceIte, reduceCtorEq, Nat.reduceBEq]) | (simp (disch := first | assumption | omega | exact Seg.len _ | exact Vec.len _ | exact Leg.len _ | exact num_len _ | exact rowA_len _ | exact rowA_len | exact rowT_len _ | exact rowT_len | exact Seg.len | exact Vec.len | exact Leg.len | exact num_len | exact AV.slen _ _ | rfl) only [num, Seg.a, vP]) | (with_reducible (first | refine gsnd (fun _ => ?_) (fun _ => ?_) | refine csnd (fun _ => ?_) (fun _ => ?_) | refine gsd (fun _ => ?_) (fun _ => ?_) | refine csd (fun _ => ?_) (fun _ => ?_) | refine gsn (fun _ => ?_) (fun _ => ?_) | refine csn (fun _ => ?_) (fun _ => ?_))) | (with_reducible refine gs (fun _ => ?_) (fun _ => ?_)) | (with_reducible refine cs_ (fun _ => ?_) (fun _ => ?_)) | (with_reducible refine objQ_i (fun _ _ => ?_); (repeat (with_reducible refine imp_i (fun _ => ?_)))) | ((try with_reducible refine appK_a ?_); first | (with_reducible refine appD_F (by refine ⟨?_, ?_, ?_, ?_⟩ <;> (first | assumption | omega | exact St.has_add (by assumption) | (simp only [ins_has]; exact St.has_add (by assumption)) | (simp only [ins_has, fresh_ins, kill_ins, add_ins] at *; exact St.has_add (by assumption)) | (simp only [*, ins_has, has_full, St.has_add]; done) | (simp [-List.map_take, -List.map_drop, or_imp, forall_and, Seg.a, Vec.a, Leg.a, num, okEl, cells_agg, cells_int, cells_sl, cells_bool, AV.isCell]; done) | (simp; omega))) (fun _ _ => ?_)) | (with_reducible refine appD_V (by refine ⟨?_, ?_, ?_, ?_, ?_⟩ <;> (first | assumption | omega | exact St.has_add (by assumption) | (simp only [ins_has]; exact St.has_add (by assumption)) | (simp only [ins_has, fresh_ins, kill_ins, add_ins] at *; exact St.has_add (by assumption)) | (simp only [*, ins_has, has_full, St.has_add]; done) | (simp [-List.map_take, -List.map_drop, or_imp, forall_and, Seg.a, Vec.a, Leg.a, num, okEl, cells_agg, cells_int, cells_sl, cells_bool, AV.isCell]; done) | (simp; omega))) (fun _ _ => ?_))) | (with_reducible refine freshQ_i (fun _ _ => ?_)) | (with_reducible refine nilQ_i (fun _ _ => ?_))))
      exact ⟨_, St.le.refl _, S', .inl hI', hle'.trans (by (refine ⟨fun i o e => ?_, fun _ h => h⟩; revert e; simp only [St.ins, St.del, add_objs, kill_objs]; (repeat' split); all_goals (first | exact id | (intros; contradiction) | (intros; subst_vars; contradiction) | (intros; simp_all; done) | (intros; subst_vars; simp_all; done))))⟩
    · (repeat' (first | (simp (config := { maxDischargeDepth := 16 }) only [*, num, Seg.a, vX, Int.reduceLE, Int.reduceLT, Int.reduceGE, Int.reduceGT, Int.reduceBEq, Int.reduceBNe, Int.reduceAdd, Int.reduceSub, Int.reduceMul, Int.reduceNeg, ↓vD, vU, ↓vMd, vMu, VE.ev, VE.evs, retvs, tupOf, grab, vfill, vbsl, eqCells, eqCell, veqs, veqs1, vmnx, AV.isCell, AV.isUndef, Nat.reduceEqDiff, Nat.reduceAdd, Nat.reduceSub, Nat.reduceLeDiff, Nat.reduceLT, reduceIte, reduceCtorEq, Nat.reduceBEq]) | (simp (disch := first | assumption | omega | exact Seg.len _ | exact Vec.len _ | exact Leg.len _ | exact num_len _ | exact rowA_len _ | exact rowA_len | exact rowT_len _ | exact rowT_len | exact Seg.len | exact Vec.len | exact Leg.len | exact num_len | exact AV.slen _ _ | rfl) only [num, Seg.a, vP]) | (with_reducible (first | refine gsnd (fun _ => ?_) (fun _ => ?_) | refine csnd (fun _ => ?_) (fun _ => ?_) | refine gsd (fun _ => ?_) (fun _ => ?_) | refine csd (fun _ => ?_) (fun _ => ?_) | refine gsn (fun _ => ?_) (fun _ => ?_) | refine csn (fun _ => ?_) (fun _ => ?_))) | (with_reducible refine gs (fun _ => ?_) (fun _ => ?_)) | (with_reducible refine cs_ (fun _ => ?_) (fun _ => ?_)) | (with_reducible refine objQ_i (fun _ _ => ?_); (repeat (with_reducible refine imp_i (fun _ => ?_)))) | ((try with_reducible refine appK_a ?_); first | (with_reducible refine appD_F (by refine ⟨?_, ?_, ?_, ?_⟩ <;> (first | assumption | omega | exact St.has_add (by assumption) | (simp only [ins_has]; exact St.has_add (by assumption)) | (simp only [ins_has, fresh_ins, kill_ins, add_ins] at *; exact St.has_add (by assumption)) | (simp only [*, ins_has, has_full, St.has_add]; done) | (simp [-List.map_take, -List.map_drop, or_imp, forall_and, Seg.a, Vec.a, Leg.a, num, okEl, cells_agg, cells_int, cells_sl, cells_bool, AV.isCell]; done) | (simp; omega))) (fun _ _ => ?_)) | (with_reducible refine appD_V (by refine ⟨?_, ?_, ?_, ?_, ?_⟩ <;> (first | assumption | omega | exact St.has_add (by assumption) | (simp only [ins_has]; exact St.has_add (by assumption)) | (simp only [ins_has, fresh_ins, kill_ins, add_ins] at *; exact St.has_add (by assumption)) | (simp only [*, ins_has, has_full, St.has_add]; done) | (simp [-List.map_take, -List.map_drop, or_imp, forall_and, Seg.a, Vec.a, Leg.a, num, okEl, cells_agg, cells_int, cells_sl, cells_bool, AV.isCell]; done) | (simp; omega))) (fun _ _ => ?_))) | (with_reducible refine freshQ_i (fun _ _ => ?_)) | (with_reducible refine nilQ_i (fun _ _ => ?_))))
      exact ⟨_, St.le.refl _, S', .inr hE', hle'.trans (by (refine ⟨fun i o e => ?_, fun _ h => h⟩; revert e; simp only [St.ins, St.del, add_objs, kill_objs]; (repeat' split); all_goals (first | exact id | (intros; contradiction) | (intros; subst_vars; contradiction) | (intros; simp_all; done) | (intros; subst_vars; simp_all; done))))⟩
end Go.Proofs.Ytglekfgoadehbaa.V
end
section
set_option linter.unusedSimpArgs false
set_option linter.unusedVariables false
/- What the package span's functions compute: over, least, Low. -/
namespace Go.Proofs.Ytglekfgoadehbaa.V
open Go Go.Proofs
set_option maxRecDepth 100000
set_option maxHeartbeats 4000000
theorem VCalls.z {P : Program} {Z Y : Im} {f : Nat} {args : List AV} {st : St} {K : AV → St → Prop} (h : VCalls P Z f args st K) (hz : Z.le Y) : VCalls P Y f args st K :=
  ⟨h.1, fun B I W vs hy hr ha => h.2 B I W vs (hz.trans hy) hr ha⟩
theorem VCalls.sm {P : Program} {Z : Im} {f : Nat} {args : List AV} {st : St} {K : AV → St → Prop} (h : VCalls P Z f args st (fun r s => ∃ S', K r S' ∧ S'.le s)) : VCalls P Z f args st K :=
  h.wk (fun v _ ⟨S', hk, hle⟩ => ⟨v, S', Wk.le hle _, hk⟩)
theorem over_c {Z : Im} {st : St} (f : List Seg) (hn : f.length ≤ 1000000) (a z : Int) (t : Tok) {g : Nat} {fs cs : List AV} (I : Nat → St → Prop) (h0 : I 0 st)
    (hh : overE f a z = 0 → ∀ k (hk : k < (runsF f a z).length) S, I k S → VCalls Try.prog Z g (fs ++ [runA (runsF f a z)[k]] ++ cs) S (fun _ s => I (k + 1) s)) :
    VCalls Try.prog Z 101 [.sl (f.map Seg.a) t, num a, num z, .clo g fs cs] st (fun r s => r = num (overE f a z) ∧ (if overE f a z = 0 then I (runsF f a z).length s else I 0 s)) := by
  refine VCalls.sm ?_
  have hmay := May_F f (by omega) t
  obtain ⟨mf, hmf⟩ : ∃ m, mayF f = m := ⟨_, rfl⟩
  rw [hmf] at hmay
  have hin := in2_v a z
  cases mf with
  | false =>
    have e : overE f a z = 5 := by unfold overE; rw [hmf]; rfl
    simp only [e, if_false, Int.reduceEq]
    clear hmf e hh
    refine VCalls.of v_span_over_ok (Nat.le_of_ble_eq_true rfl) ?_
    simp only [v_span_over, ↓vD, vU, ↓vMd, vMu, vZ, seval, k_app, k_slc1]
    (repeat' (first | (simp (maxDischargeDepth := 16) only [*, num, vX, ↓vD, vU, ↓vMd, vMu, vZ, seval]) | (simp (disch := first | assumption | omega | rfl | exact fun _ => rfl) only [num, vP]) | ((with_reducible first | apply gsnd | apply csnd | apply gsd | apply csd | apply gsn | apply csn | apply gs | apply cs_) <;> intro _) | (with_reducible refine objQ_i (fun _ _ => ?_); repeat with_reducible refine imp_i (fun _ => ?_)) | (with_reducible first | refine callH_use (hmay) ?_ | refine pureQ_use (hmay) ?_) | (with_reducible first | refine callH_use (hin _) ?_ | refine pureQ_use (hin _) ?_)))
    exact ⟨_, St.le.refl _, st, h0, by (refine ⟨fun i o e => ?_, fun _ h => h⟩; revert e; simp only [St.ins, St.del, add_objs, kill_objs]; (repeat' split); all_goals (first | exact id | (intros; contradiction) | (intros; subst_vars; contradiction) | (intros; simp_all; done) | (intros; subst_vars; simp_all; done)))⟩
  | true =>
  by_cases hc : -1125899906842624 ≤ min a z ∧ max a z ≤ 1125899906842624 ∧ a < z ∧ z - a ≤ 8000
  case neg =>
    have e : overE f a z = 2 := by unfold overE; rw [hmf, if_pos rfl, if_neg hc]
    simp only [e, if_false, Int.reduceEq]
    clear hmf e hh
    by_cases c1 : -1125899906842624 ≤ min a z
    case neg =>
      refine VCalls.of v_span_over_ok (Nat.le_of_ble_eq_true rfl) ?_
      simp only [v_span_over, ↓vD, vU, ↓vMd, vMu, vZ, seval, k_app, k_slc1]
      (repeat' (first | (simp (maxDischargeDepth := 16) only [*, num, decide_false, decide_true, Bool.false_and, Bool.true_and, Bool.and_false, Bool.not_false, Bool.not_true, vX, ↓vD, vU, ↓vMd, vMu, vZ, seval]) | (simp (disch := first | assumption | omega | rfl | exact fun _ => rfl) only [num, decide_false, decide_true, Bool.false_and, Bool.true_and, Bool.and_false, Bool.not_false, Bool.not_true, vP]) | ((with_reducible first | apply gsnd | apply csnd | apply gsd | apply csd | apply gsn | apply csn | apply gs | apply cs_) <;> intro _) | (with_reducible refine objQ_i (fun _ _ => ?_); repeat with_reducible refine imp_i (fun _ => ?_)) | (with_reducible first | refine callH_use (hmay) ?_ | refine pureQ_use (hmay) ?_) | (with_reducible first | refine callH_use (hin _) ?_ | refine pureQ_use (hin _) ?_)))
      exact ⟨_, St.le.refl _, st, h0, by (refine ⟨fun i o e => ?_, fun _ h => h⟩; revert e; simp only [St.ins, St.del, add_objs, kill_objs]; (repeat' split); all_goals (first | exact id | (intros; contradiction) | (intros; subst_vars; contradiction) | (intros; simp_all; done) | (intros; subst_vars; simp_all; done)))⟩
    by_cases c2 : max a z ≤ 1125899906842624
    case neg =>
      refine VCalls.of v_span_over_ok (Nat.le_of_ble_eq_true rfl) ?_
      simp only [v_span_over, ↓vD, vU, ↓vMd, vMu, vZ, seval, k_app, k_slc1]
      (repeat' (first | (simp (maxDischargeDepth := 16) only [*, num, decide_false, decide_true, Bool.false_and, Bool.true_and, Bool.and_false, Bool.not_false, Bool.not_true, vX, ↓vD, vU, ↓vMd, vMu, vZ, seval]) | (simp (disch := first | assumption | omega | rfl | exact fun _ => rfl) only [num, decide_false, decide_true, Bool.false_and, Bool.true_and, Bool.and_false, Bool.not_false, Bool.not_true, vP]) | ((with_reducible first | apply gsnd | apply csnd | apply gsd | apply csd | apply gsn | apply csn | apply gs | apply cs_) <;> intro _) | (with_reducible refine objQ_i (fun _ _ => ?_); repeat with_reducible refine imp_i (fun _ => ?_)) | (with_reducible first | refine callH_use (hmay) ?_ | refine pureQ_use (hmay) ?_) | (with_reducible first | refine callH_use (hin _) ?_ | refine pureQ_use (hin _) ?_)))
      exact ⟨_, St.le.refl _, st, h0, by (refine ⟨fun i o e => ?_, fun _ h => h⟩; revert e; simp only [St.ins, St.del, add_objs, kill_objs]; (repeat' split); all_goals (first | exact id | (intros; contradiction) | (intros; subst_vars; contradiction) | (intros; simp_all; done) | (intros; subst_vars; simp_all; done)))⟩
    have b1 : -1125899906842624 ≤ a ∧ -1125899906842624 ≤ z ∧ a ≤ 1125899906842624 ∧ z ≤ 1125899906842624 := by omega
    obtain ⟨b1, b2, b3, b4⟩ := b1
    have hw : IntKind.i64.wrap (z - a) = z - a := wrap_i64 _ (by omega) (by omega)
    by_cases c3 : z ≤ a
    · refine VCalls.of v_span_over_ok (Nat.le_of_ble_eq_true rfl) ?_
      simp only [v_span_over, ↓vD, vU, ↓vMd, vMu, vZ, seval, k_app, k_slc1]
      (repeat' (first | (simp (maxDischargeDepth := 16) only [*, num, decide_false, decide_true, Bool.false_and, Bool.true_and, Bool.and_false, Bool.not_false, Bool.not_true, vX, ↓vD, vU, ↓vMd, vMu, vZ, seval]) | (simp (disch := first | assumption | omega | rfl | exact fun _ => rfl) only [num, decide_false, decide_true, Bool.false_and, Bool.true_and, Bool.and_false, Bool.not_false, Bool.not_true, vP]) | ((with_reducible first | apply gsnd | apply csnd | apply gsd | apply csd | apply gsn | apply csn | apply gs | apply cs_) <;> intro _) | (with_reducible refine objQ_i (fun _ _ => ?_); repeat with_reducible refine imp_i (fun _ => ?_)) | (with_reducible first | refine callH_use (hmay) ?_ | refine pureQ_use (hmay) ?_) | (with_reducible first | refine callH_use (hin _) ?_ | refine pureQ_use (hin _) ?_)))
      exact ⟨_, St.le.refl _, st, h0, by (refine ⟨fun i o e => ?_, fun _ h => h⟩; revert e; simp only [St.ins, St.del, add_objs, kill_objs]; (repeat' split); all_goals (first | exact id | (intros; contradiction) | (intros; subst_vars; contradiction) | (intros; simp_all; done) | (intros; subst_vars; simp_all; done)))⟩
    · have c4 : 8000 < z - a := by omega
      refine VCalls.of v_span_over_ok (Nat.le_of_ble_eq_true rfl) ?_
      simp only [v_span_over, ↓vD, vU, ↓vMd, vMu, vZ, seval, k_app, k_slc1]
      (repeat' (first | (simp (maxDischargeDepth := 16) only [*, num, decide_false, decide_true, Bool.false_and, Bool.true_and, Bool.and_false, Bool.not_false, Bool.not_true, vX, ↓vD, vU, ↓vMd, vMu, vZ, seval]) | (simp (disch := first | assumption | omega | rfl | exact fun _ => rfl) only [num, decide_false, decide_true, Bool.false_and, Bool.true_and, Bool.and_false, Bool.not_false, Bool.not_true, vP]) | ((with_reducible first | apply gsnd | apply csnd | apply gsd | apply csd | apply gsn | apply csn | apply gs | apply cs_) <;> intro _) | (with_reducible refine objQ_i (fun _ _ => ?_); repeat with_reducible refine imp_i (fun _ => ?_)) | (with_reducible first | refine callH_use (hmay) ?_ | refine pureQ_use (hmay) ?_) | (with_reducible first | refine callH_use (hin _) ?_ | refine pureQ_use (hin _) ?_)))
      exact ⟨_, St.le.refl _, st, h0, by (refine ⟨fun i o e => ?_, fun _ h => h⟩; revert e; simp only [St.ins, St.del, add_objs, kill_objs]; (repeat' split); all_goals (first | exact id | (intros; contradiction) | (intros; subst_vars; contradiction) | (intros; simp_all; done) | (intros; subst_vars; simp_all; done)))⟩
  case pos =>
    have e : overE f a z = 0 := by unfold overE; rw [hmf, if_pos rfl, if_pos hc]
    have hh2 := hh e
    simp only [e, if_true]
    clear hmf e hh
    obtain ⟨c1, c2, c3, c4⟩ := hc
    have b1 : -1125899906842624 ≤ a ∧ -1125899906842624 ≤ z ∧ a ≤ 1125899906842624 ∧ z ≤ 1125899906842624 := by omega
    obtain ⟨b1, b2, b3, b4⟩ := b1
    have hw : IntKind.i64.wrap (z - a) = z - a := wrap_i64 _ (by omega) (by omega)
    have hr := runs_c f a z t
    unfold num at hr
    have HH := Hid.mk hh2
    clear hh2
    refine VCalls.of v_span_over_ok (Nat.le_of_ble_eq_true rfl) ?_
    simp only [v_span_over, ↓vD, vU, ↓vMd, vMu, vZ, seval, k_app, k_slc1]
    (repeat' (first | (simp (maxDischargeDepth := 16) only [*, num, decide_false, decide_true, Bool.false_and, Bool.true_and, Bool.and_false, Bool.not_false, Bool.not_true, Bool.and_self, vX, ↓vD, vU, ↓vMd, vMu, vZ, seval]) | (simp (disch := first | assumption | omega | rfl | exact fun _ => rfl) only [num, decide_false, decide_true, Bool.false_and, Bool.true_and, Bool.and_false, Bool.not_false, Bool.not_true, Bool.and_self, vP]) | ((with_reducible first | apply gsnd | apply csnd | apply gsd | apply csd | apply gsn | apply csn | apply gs | apply cs_) <;> intro _) | (with_reducible refine objQ_i (fun _ _ => ?_); repeat with_reducible refine imp_i (fun _ => ?_)) | (with_reducible first | refine callH_use (hmay) ?_ | refine pureQ_use (hmay) ?_) | (with_reducible first | refine callH_use (hin _) ?_ | refine pureQ_use (hin _) ?_) | (with_reducible first | refine callH_use (hr) ?_ | refine pureQ_use (hr) ?_)))
    rename_i b7 h7
    refine rng_iter (gf := 128) (fs := []) (by simp only [↓vD, vU, ↓vMd, vMu, vZ, seval, k_app, k_slc1]; rfl) (runs_it f (by omega) a z b1 b4 c3 t) (by intro x hx; obtain ⟨_, _, rfl⟩ := List.mem_map.1 hx; rfl) (fun j T => ∃ S, T = S.ins b7 (.cells [.clo g fs cs]) ∧ I j S ∧ S.objs b7 = none) (fun _ _ => False) ⟨st, rfl, h0, h7⟩ ?_ ?_ (by intro _ _ _ _ _ _ _ h; exact h.elim)
    · rintro Y l0 D r hzy nlD nDl j hj T ⟨S, rfl, hI, hS7⟩ hTl hTD
      simp only [ins_objs, ite_some_none] at hTl hTD
      obtain ⟨q1, q2, hSl⟩ := hTl
      obtain ⟨r1, r2, hSD⟩ := hTD
      rw [List.length_map] at hj
      simp only [List.getElem_map]
      have hcall := (HH.out j hj S hI).z hzy
      obtain ⟨it, hit⟩ : ∃ it, (runsF f a z)[j] = it := ⟨_, rfl⟩
      rw [hit] at hcall ⊢
      simp only [runA] at hcall
      clear hit
      (repeat' (first | (simp (maxDischargeDepth := 16) only [*, argsFr1_t, argsFr1_d, runA, rq_normal, vX, ↓vD, vU, ↓vMd, vMu, vZ, seval]) | (simp (disch := first | assumption | omega | rfl | exact fun _ => rfl) only [argsFr1_t, argsFr1_d, runA, rq_normal, vP]) | ((with_reducible first | apply gsnd | apply csnd | apply gsd | apply csd | apply gsn | apply csn | apply gs | apply cs_) <;> intro _) | (with_reducible refine objQ_i (fun _ _ => ?_); repeat with_reducible refine imp_i (fun _ => ?_))))
      rename_i b9 h9 m1 m2 m3 m4 m5 m6
      refine callH_then ((((hcall.frame b7 _ hS7).frame D _ (by simp only [ins_objs, kill_objs, add_objs, *, if_false, if_true, not_false_eq_true, ite_some_none, and_self, and_true, true_and])).frame b9 _ (by simp only [ins_objs, kill_objs, add_objs, *, if_false, if_true, not_false_eq_true, ite_some_none, and_self, and_true, true_and])).frame l0 _ (by simp only [ins_objs, kill_objs, add_objs, *, if_false, if_true, not_false_eq_true, ite_some_none, and_self, and_true, true_and])) ?_
      rintro v _ ⟨_, ⟨_, ⟨_, ⟨s0, hI', u7, rfl⟩, uD, rfl⟩, u9, rfl⟩, ul, rfl⟩
      simp only [ins_objs, ite_some_none] at u7 uD ul u9
      (repeat' (first | (simp (maxDischargeDepth := 16) only [*, rq_normal, vX, ↓vD, vU, ↓vMd, vMu, vZ, seval]) | (simp (disch := first | assumption | omega | rfl | exact fun _ => rfl) only [rq_normal, vP]) | ((with_reducible first | apply gsnd | apply csnd | apply gsd | apply csd | apply gsn | apply csn | apply gs | apply cs_) <;> intro _) | (with_reducible refine objQ_i (fun _ _ => ?_); repeat with_reducible refine imp_i (fun _ => ?_))))
      have v9 : s0.objs b9 = none := u9.2.2.2.2
      exact ⟨_, ⟨⟨s0, rfl, hI', u7⟩, (by simp only [ins_objs, kill_objs, add_objs, *, if_false, if_true, not_false_eq_true, ite_some_none, and_self, and_true, true_and])⟩, (by simp only [ins_objs, kill_objs, add_objs, *, if_false, if_true, not_false_eq_true, ite_some_none, and_self, and_true, true_and]), by (refine leX.start ?_ rfl; (repeat (refine leX.in_ (by simp only [*, ins_objs, if_true, if_false]; first | done | rfl) ?_)); (repeat (first | refine leX.new (by first | assumption | (rw [hob]; assumption)) ?_ | refine leX.old (by (simp only [List.mem_cons, true_or, or_true, eq_self]; done)) ?_)); exact leX.refl _ _)⟩
    · rintro D l0 o T nlD nDl ⟨S, rfl, hI, hS7⟩ hTl hTD
      simp only [ins_objs, ite_some_none] at hTl hTD
      obtain ⟨q1, q2, hSl⟩ := hTl
      obtain ⟨r1, r2, hSD⟩ := hTD
      rw [List.length_map] at hI
      (repeat' (first | (simp (maxDischargeDepth := 16) only [*, vX, ↓vD, vU, ↓vMd, vMu, vZ, seval]) | (simp (disch := first | assumption | omega | rfl | exact fun _ => rfl) only [vP]) | ((with_reducible first | apply gsnd | apply csnd | apply gsd | apply csd | apply gsn | apply csn | apply gs | apply cs_) <;> intro _) | (with_reducible refine objQ_i (fun _ _ => ?_); repeat with_reducible refine imp_i (fun _ => ?_))))
      refine ⟨_, S, rfl, ?_, by simp, by (refine ⟨fun i o e => ?_, fun _ h => h⟩; revert e; simp only [St.ins, St.del, add_objs, kill_objs]; (repeat' split); all_goals (first | exact id | (intros; contradiction) | (intros; subst_vars; contradiction) | (intros; simp_all; done) | (intros; subst_vars; simp_all; done))), S, ⟨rfl, hI⟩, St.le.refl _⟩
      intro D' hD'
      rcases List.mem_singleton.1 hD' with rfl
      exact ⟨(by simp only [ins_objs, kill_objs, add_objs, *, if_false, if_true, not_false_eq_true, ite_some_none, and_self, and_true, true_and]), hSD⟩
end Go.Proofs.Ytglekfgoadehbaa.V
end
section
set_option linter.unusedSimpArgs false
set_option linter.unusedVariables false
/- Sums of rows of functions: plain. -/
namespace Go.Proofs.Ytglekfgoadehbaa.V
open Go Go.Proofs Go.Proofs.Ytglekfgoadehbaa.SP
set_option maxRecDepth 100000
def small (b : Int) (v : Vec) : Prop := (-b ≤ v.m ∧ v.m ≤ b) ∧ (-b ≤ v.c ∧ v.c ≤ b)
theorem atF_small {f : List Seg} {b : Int} (hb : 0 ≤ b) (h : ∀ x ∈ f, small b x.v) (t : Int) : small b (atF f t) := by
  have : ∀ (l : List Seg) (v : Vec), (∀ x ∈ l, small b x.v) → small b v → small b (l.foldl (fun v x => if x.t ≤ t then x.v else v) v) := by
    intro l
    induction l with
    | nil => intro v _ hv; exact hv
    | cons x l ih =>
      intro v hl hv
      rw [List.foldl_cons]
      refine ih _ (fun y hy => hl y (by simp [hy])) ?_
      split
      · exact hl x (by simp)
      · exact hv
  exact this f v0 h (by unfold small v0; simp only; omega)
end Go.Proofs.Ytglekfgoadehbaa.V
end
section
set_option linter.unusedSimpArgs false
set_option linter.unusedVariables false
/- Sums over windows, in plain Lean: tick by tick, and by runs. -/
namespace Go.Proofs.Ytglekfgoadehbaa.V
open Go Go.Proofs
def sumT (h : Int → Int) : Int → Nat → Int
  | _, 0 => 0
  | p, n + 1 => h p + sumT h (p + 1) n
theorem sumT_add (h : Int → Int) : ∀ (a b : Nat) (p : Int), sumT h p (a + b) = sumT h p a + sumT h (p + a) b
  | 0, b, p => by simp [sumT]
  | a + 1, b, p => by
    rw [show a + 1 + b = (a + b) + 1 by omega, sumT, sumT, sumT_add h a b (p + 1), show p + ((a + 1 : Nat) : Int) = p + 1 + a by omega]; omega
theorem sumT_const (h : Int → Int) (c : Int) : ∀ (n : Nat) (p : Int), (∀ s, p ≤ s → s < p + n → h s = c) → sumT h p n = n * c
  | 0, p, _ => by simp [sumT]
  | n + 1, p, hc => by
    rw [sumT, hc p (Int.le_refl _) (by omega), sumT_const h c n (p + 1) (fun s h1 h2 => hc s (by omega) (by omega))]
    rw [show ((n + 1 : Nat) : Int) = n + 1 by omega, Int.add_mul]; omega
theorem sumT_congr (h k : Int → Int) : ∀ (n : Nat) (p : Int), (∀ s, p ≤ s → s < p + n → h s = k s) → sumT h p n = sumT k p n
  | 0, _, _ => rfl
  | n + 1, p, hc => by
    rw [sumT, sumT, hc p (Int.le_refl _) (by omega), sumT_congr h k n (p + 1) (fun s h1 h2 => hc s (by omega) (by omega))]
theorem sumT_bd (h : Int → Int) (M : Int) : ∀ (n : Nat) (p : Int), (∀ s, p ≤ s → s < p + n → -M ≤ h s ∧ h s ≤ M) → -(M * n) ≤ sumT h p n ∧ sumT h p n ≤ M * n
  | 0, _, _ => by simp [sumT]
  | n + 1, p, hc => by
    have h1 := hc p (Int.le_refl _) (by omega)
    have h2 := sumT_bd h M n (p + 1) (fun s g1 g2 => hc s (by omega) (by omega))
    rw [sumT, show ((n + 1 : Nat) : Int) = n + 1 by omega, Int.mul_add, Int.mul_one]; omega
theorem sumT_split (h k : Int → Int) : ∀ (n : Nat) (p : Int), sumT (fun s => h s + k s) p n = sumT h p n + sumT k p n
  | 0, _ => rfl
  | n + 1, p => by rw [sumT, sumT, sumT, sumT_split h k n (p + 1)]; omega
def sumR_ (g : Vec → Int) : List (Vec × Int) → Int
  | [] => 0
  | q :: r => q.2 * g q.1 + sumR_ g r
theorem runs_sum (z : Int) (a : Int) (g : Vec → Int) : ∀ (r : List Seg) (p : Int) (u : Vec), (r.map (·.t)).Pairwise (· < ·) → (∀ x ∈ r, a < x.t ∧ x.t < z ∧ p < x.t) → p ≤ z →
    sumR_ g (runsGo a z r p u) = sumT (fun s => g (atP u r s)) p (z - p).toNat
  | [], p, u, _, _, hpz => by
    simp only [runsGo, sumR_]
    rw [sumT_const (fun s => g (atP u [] s)) (g u) _ _ (fun s _ _ => rfl), Int.toNat_of_nonneg (by omega)]; omega
  | x :: r, p, u, hp, hx, hpz => by
    simp only [List.map_cons, List.pairwise_cons, List.mem_map, forall_exists_index, and_imp, forall_apply_eq_imp_iff₂] at hp
    obtain ⟨h1, h2, h3⟩ := hx x (by simp)
    have ih := runs_sum z a g r x.t x.v hp.2 (fun y hy => ⟨(hx y (by simp [hy])).1, (hx y (by simp [hy])).2.1, hp.1 y hy⟩) (by omega)
    rw [runsGo, if_neg (by omega), sumR_, ih]
    have e : (z - p).toNat = (x.t - p).toNat + (z - x.t).toNat := by omega
    rw [e, sumT_add, show p + ((x.t - p).toNat : Int) = x.t by omega]
    congr 1
    · rw [sumT_const _ (g u) _ _ (fun s g1 g2 => by
        rw [atP_late2 u _ s (fun y hy => ?_)]
        rcases List.mem_cons.1 hy with rfl | hy
        · omega
        · have := hp.1 y hy; omega), Int.toNat_of_nonneg (by omega)]
    · exact sumT_congr _ _ _ _ (fun s g1 g2 => by simp only [atP, List.foldl_cons]; rw [if_pos g1])
theorem runsF_sum {f : List Seg} (hf : mayF f = true) {a z : Int} (h : a ≤ z) (g : Vec → Int) : sumR_ g (runsF f a z) = sumT (fun s => g (atF f s)) a (z - a).toNat := by
  have hu := ((mayF_iff f).1 hf).1.up
  unfold runsF
  rw [runsGo_ins]
  obtain ⟨hu', hin⟩ := insW_up a z hu
  rw [runs_sum z a g (insW a z f) a (atF f a) hu' (fun x hx => ⟨(hin x hx).1, (hin x hx).2, (hin x hx).1⟩) h]
  exact sumT_congr _ _ _ _ (fun s g1 g2 => by
    have h2 : atF f s = atP (atF f a) (insW a z f) s := atP_from a z f v0 s hu g1 (by omega)
    rw [h2])
def moreF (a b : Vec) (n : Int) : Vec := ⟨wr (a.m + wr (n * b.m)), wr (a.c + wr (n * b.c))⟩
def sumF_ (f : List Seg) (a z : Int) : Vec := (runsF f a z).foldl (fun o q => moreF o q.1 q.2) v0
theorem fold_more (B : Int) (hB : 0 ≤ B) (hB2 : B ≤ 17592186044416) : ∀ (l : List (Vec × Int)) (o : Vec) (N : Int), (∀ q ∈ l, small B q.1 ∧ 0 ≤ q.2) → 0 ≤ N → N + sumR_ (fun _ => 1) l ≤ 8192 → (-(B * N) ≤ o.m ∧ o.m ≤ B * N) → (-(B * N) ≤ o.c ∧ o.c ≤ B * N) →
    l.foldl (fun o q => moreF o q.1 q.2) o = ⟨o.m + sumR_ Vec.m l, o.c + sumR_ Vec.c l⟩
  | [], o, N, _, _, _, _, _ => by simp [sumR_]
  | q :: r, o, N, hl, hN, hs, h1, h2 => by
    obtain ⟨hq, hq2⟩ := hl q (by simp)
    simp only [small] at hq
    simp only [sumR_, Int.mul_one] at hs
    have hr : 0 ≤ sumR_ (fun _ => 1) r := by
      have : ∀ (l : List (Vec × Int)), (∀ q ∈ l, 0 ≤ q.2) → 0 ≤ sumR_ (fun _ => 1) l := by
        intro l
        induction l with
        | nil => intro _; simp [sumR_]
        | cons p l ih => intro h; have := ih (fun q hq => h q (by simp [hq])); have := h p (by simp); simp only [sumR_, Int.mul_one]; omega
      exact this r (fun p hp => (hl p (by simp [hp])).2)
    have b1 : -(B * q.2) ≤ q.2 * q.1.m ∧ q.2 * q.1.m ≤ B * q.2 := by
      constructor
      · have := Int.mul_le_mul_of_nonneg_left (show -B ≤ q.1.m by omega) hq2
        rw [Int.mul_neg, Int.mul_comm q.2 B] at this; omega
      · have := Int.mul_le_mul_of_nonneg_left (show q.1.m ≤ B by omega) hq2
        rw [Int.mul_comm q.2 B] at this; omega
    have b2 : -(B * q.2) ≤ q.2 * q.1.c ∧ q.2 * q.1.c ≤ B * q.2 := by
      constructor
      · have := Int.mul_le_mul_of_nonneg_left (show -B ≤ q.1.c by omega) hq2
        rw [Int.mul_neg, Int.mul_comm q.2 B] at this; omega
      · have := Int.mul_le_mul_of_nonneg_left (show q.1.c ≤ B by omega) hq2
        rw [Int.mul_comm q.2 B] at this; omega
    have b3 : B * (N + q.2) ≤ 17592186044416 * 8192 := Int.le_trans (Int.mul_le_mul_of_nonneg_left (show N + q.2 ≤ 8192 by omega) hB) (Int.mul_le_mul_of_nonneg_right hB2 (by omega))
    have b4 : B * (N + q.2) = B * N + B * q.2 := Int.mul_add ..
    have b5 : 0 ≤ B * N := Int.mul_nonneg hB hN
    have b6 : 0 ≤ B * q.2 := Int.mul_nonneg hB hq2
    have e : moreF o q.1 q.2 = ⟨o.m + q.2 * q.1.m, o.c + q.2 * q.1.c⟩ := by
      unfold moreF wr
      rw [wrap_i64 (q.2 * q.1.m) (by omega) (by omega), wrap_i64 (q.2 * q.1.c) (by omega) (by omega), wrap_i64 (o.m + q.2 * q.1.m) (by omega) (by omega), wrap_i64 (o.c + q.2 * q.1.c) (by omega) (by omega)]
    rw [List.foldl_cons, e, fold_more B hB hB2 r _ (N + q.2) (fun p hp => hl p (by simp [hp])) (by omega) (by omega) (by simp only; omega) (by simp only; omega)]
    simp only [sumR_, Vec.mk.injEq]; omega
theorem sumF_is {f : List Seg} (hf : mayF f = true) {B : Int} (hB : 0 ≤ B) (hB2 : B ≤ 17592186044416) (hs : ∀ x ∈ f, small B x.v) {a z : Int} (h : a < z) (hz : z - a ≤ 8192) :
    sumF_ f a z = ⟨sumT (fun s => (atF f s).m) a (z - a).toNat, sumT (fun s => (atF f s).c) a (z - a).toNat⟩ := by
  obtain ⟨_, i2⟩ := runsF_law ((mayF_iff f).1 hf).1.up h
  unfold sumF_
  rw [fold_more B hB hB2 (runsF f a z) v0 0 (fun q hq => by
    obtain ⟨q0, s, _, _, e⟩ := i2 q hq
    exact ⟨by rw [e]; exact atF_small hB hs s, by omega⟩) (by omega) (by
      rw [runsF_sum hf (by omega) (fun _ => 1), sumT_const _ 1 _ _ (fun _ _ _ => rfl)]; omega) (by simp [v0]) (by simp [v0]),
    runsF_sum hf (by omega) Vec.m, runsF_sum hf (by omega) Vec.c]
  simp [v0]
end Go.Proofs.Ytglekfgoadehbaa.V
end
section
set_option linter.unusedSimpArgs false
set_option linter.unusedVariables false
/- What span.Sum computes. -/
namespace Go.Proofs.Ytglekfgoadehbaa.V
open Go Go.Proofs
set_option maxRecDepth 100000
set_option maxHeartbeats 4000000
theorem more_v (a b : Vec) (n : Int) : VPure Try.prog 103 [a.a, b.a, num n] (moreF a b n).a := by
  refine VPure.of v_span_more_ok (Nat.le_of_ble_eq_true rfl) (fun Z st => ?_)
  simp only [v_span_more, ↓vD, vU, ↓vMd, vMu, vZ, seval, k_app, k_slc1]
  unfold moreF wr
  obtain ⟨p, hp⟩ : ∃ p, IntKind.i64.wrap (n * b.m) = p := ⟨_, rfl⟩
  obtain ⟨q, hq⟩ : ∃ q, IntKind.i64.wrap (n * b.c) = q := ⟨_, rfl⟩
  obtain ⟨r, hr⟩ : ∃ r, IntKind.i64.wrap (a.m + p) = r := ⟨_, rfl⟩
  obtain ⟨s, hs⟩ : ∃ s, IntKind.i64.wrap (a.c + q) = s := ⟨_, rfl⟩
  (repeat' (first | (simp (maxDischargeDepth := 16) only [*, num, Vec.a, vX, ↓vD, vU, ↓vMd, vMu, vZ, seval]) | (simp (disch := first | assumption | omega | rfl | exact fun _ => rfl) only [num, Vec.a, vP]) | ((with_reducible first | apply gsnd | apply csnd | apply gsd | apply csd | apply gsn | apply csn | apply gs | apply cs_) <;> intro _) | (with_reducible refine objQ_i (fun _ _ => ?_); repeat with_reducible refine imp_i (fun _ => ?_))))
theorem Sum1_c {Z : Im} {S : St} (q : Vec × Int) (u : Vec) {b8 : Nat} :
    VCalls Try.prog Z 102 [runA q, .ptr b8 0] (S.ins b8 (.cells [.int .i64 u.m, .int .i64 u.c])) (fun _ s => s = S.ins b8 (.cells [.int .i64 (moreF u q.1 q.2).m, .int .i64 (moreF u q.1 q.2).c])) := by
  have hc := more_v u q.1 q.2
  obtain ⟨w, hw⟩ : ∃ w, moreF u q.1 q.2 = w := ⟨_, rfl⟩
  rw [hw] at hc ⊢
  clear hw
  simp only [Vec.a, num] at hc
  refine VCalls.of v_span_Sum_1_ok (Nat.le_of_ble_eq_true rfl) ?_
  simp only [v_span_Sum_1, ↓vD, vU, ↓vMd, vMu, vZ, seval, k_app, k_slc1]
  (repeat' (first | (simp (maxDischargeDepth := 16) only [*, runA, vX, ↓vD, vU, ↓vMd, vMu, vZ, seval]) | (simp (disch := first | assumption | omega | rfl | exact fun _ => rfl) only [runA, vP]) | ((with_reducible first | apply gsnd | apply csnd | apply gsd | apply csd | apply gsn | apply csn | apply gs | apply cs_) <;> intro _) | (with_reducible refine objQ_i (fun _ _ => ?_); repeat with_reducible refine imp_i (fun _ => ?_)) | (with_reducible first | refine callH_use (hc) ?_ | refine pureQ_use (hc) ?_)))
  all_goals first | done | exact ⟨_, by (refine ⟨fun i o e => ?_, fun _ h => h⟩; revert e; simp only [St.ins, St.del, add_objs, kill_objs]; (repeat' split); all_goals (first | exact id | (intros; contradiction) | (intros; subst_vars; contradiction) | (intros; simp_all; done) | (intros; subst_vars; simp_all; done))), rfl⟩
def accV (R : List (Vec × Int)) (k : Nat) : Vec := (R.take k).foldl (fun o q => moreF o q.1 q.2) v0
theorem accV_next (R : List (Vec × Int)) {k : Nat} (hk : k < R.length) : accV R (k + 1) = moreF (accV R k) R[k].1 R[k].2 := by
  unfold accV
  rw [List.take_add_one, List.getElem?_eq_getElem hk, List.foldl_append]; rfl
theorem accV_all (f : List Seg) (a z : Int) : accV (runsF f a z) (runsF f a z).length = sumF_ f a z := by
  unfold accV sumF_; rw [List.take_length]
def accS (S : St) (b : Nat) (R : List (Vec × Int)) (k : Nat) : St := S.ins b (.cells [.int .i64 (accV R k).m, .int .i64 (accV R k).c])
theorem Sum_step {Z : Im} (R : List (Vec × Int)) {b8 : Nat} {S0 : St} (k : Nat) (hk : k < R.length) : VCalls Try.prog Z 102 ([] ++ [runA R[k]] ++ [.ptr b8 0]) (accS S0 b8 R k) (fun _ s => s = accS S0 b8 R (k + 1)) := by
  unfold accS
  rw [accV_next R hk]
  exact Sum1_c R[k] (accV R k)
theorem Sum_over {Z : Im} {S : St} (f : List Seg) (hn : f.length ≤ 1000000) (a z : Int) (t : Tok) {b8 : Nat} :
    VCalls Try.prog Z 101 [.sl (f.map Seg.a) t, num a, num z, .clo 102 [] [.ptr b8 0]] (S.ins b8 (.cells [.int .i64 0, .int .i64 0])) (fun r s => r = num (overE f a z) ∧ (if overE f a z = 0 then s = S.ins b8 (.cells [.int .i64 (sumF_ f a z).m, .int .i64 (sumF_ f a z).c]) else s = S.ins b8 (.cells [.int .i64 0, .int .i64 0]))) := by
  have h := over_c (Z := Z) (st := S.ins b8 (.cells [.int .i64 0, .int .i64 0])) f hn a z t (g := 102) (fs := []) (cs := [.ptr b8 0]) (fun k s => s = accS S b8 (runsF f a z) k) rfl (fun _ k hk s hs => by
    subst hs
    exact Sum_step _ k hk)
  refine h.mono ?_
  rintro r s ⟨rfl, hi⟩
  refine ⟨rfl, ?_⟩
  split at hi
  · rename_i he
    rw [if_pos he, hi, accS, accV_all]
  · rename_i he
    rw [if_neg he, hi]; rfl
theorem Sum_c (f : List Seg) (hn : f.length ≤ 1000000) (a z : Int) (t : Tok) :
    VPure Try.prog 81 [.sl (f.map Seg.a) t, num a, num z] (.tup [(if overE f a z = 0 then sumF_ f a z else v0).a, num (overE f a z)]) := fun Z st => by
  have HO : ∀ (S : St) (b8 : Nat), Hid (VCalls Try.prog Z 101 [.sl (f.map Seg.a) t, num a, num z, .clo 102 [] [.ptr b8 0]] (S.ins b8 (.cells [.int .i64 0, .int .i64 0])) (fun r s => r = num (overE f a z) ∧ (if overE f a z = 0 then s = S.ins b8 (.cells [.int .i64 (sumF_ f a z).m, .int .i64 (sumF_ f a z).c]) else s = S.ins b8 (.cells [.int .i64 0, .int .i64 0])))) := fun S b8 => ⟨Sum_over f hn a z t⟩
  obtain ⟨e, he⟩ : ∃ e, overE f a z = e := ⟨_, rfl⟩
  obtain ⟨w, hw⟩ : ∃ w, sumF_ f a z = w := ⟨_, rfl⟩
  rw [he, hw] at HO ⊢
  clear he hw
  refine VCalls.of v_span_Sum_ok (Nat.le_of_ble_eq_true rfl) ?_
  simp only [v_span_Sum, ↓vD, vU, ↓vMd, vMu, vZ, seval, k_app, k_slc1]
  (repeat' (first | (simp (maxDischargeDepth := 16) only [*, num, vX, ↓vD, vU, ↓vMd, vMu, vZ, seval]) | (simp (disch := first | assumption | omega | rfl | exact fun _ => rfl) only [num, vP]) | ((with_reducible first | apply gsnd | apply csnd | apply gsd | apply csd | apply gsn | apply csn | apply gs | apply cs_) <;> intro _) | (with_reducible refine objQ_i (fun _ _ => ?_); repeat with_reducible refine imp_i (fun _ => ?_))))
  (rename_i b6 hb6 b8 hb8 n_b8_b6 n_b6_b8)
  have ho := (HO (st.ins b6 (.cells [.int .i64 0, .int .i64 0])) b8).out
  clear HO
  unfold num at ho
  refine callH_then ho ?_
  rintro _ s ⟨rfl, hI⟩
  clear ho
  by_cases h0 : e = 0
  · subst h0
    rw [if_pos rfl] at hI ⊢
    subst hI
    (repeat' (first | (simp (maxDischargeDepth := 16) only [*, Vec.a, vX, ↓vD, vU, ↓vMd, vMu, vZ, seval]) | (simp (disch := first | assumption | omega | rfl | exact fun _ => rfl) only [Vec.a, vP]) | ((with_reducible first | apply gsnd | apply csnd | apply gsd | apply csd | apply gsn | apply csn | apply gs | apply cs_) <;> intro _) | (with_reducible refine objQ_i (fun _ _ => ?_); repeat with_reducible refine imp_i (fun _ => ?_))))
    all_goals first | done | rfl
  · rw [if_neg h0] at hI ⊢
    subst hI
    (repeat' (first | (simp (maxDischargeDepth := 16) only [*, Vec.a, vX, ↓vD, vU, ↓vMd, vMu, vZ, seval]) | (simp (disch := first | assumption | omega | rfl | exact fun _ => rfl) only [Vec.a, vP]) | ((with_reducible first | apply gsnd | apply csnd | apply gsd | apply csd | apply gsn | apply csn | apply gs | apply cs_) <;> intro _) | (with_reducible refine objQ_i (fun _ _ => ?_); repeat with_reducible refine imp_i (fun _ => ?_))))
    all_goals first | done | rfl
end Go.Proofs.Ytglekfgoadehbaa.V
end
section
set_option linter.unusedSimpArgs false
set_option linter.unusedVariables false
/- slices' functions at api.Leg (printed by gen_sl.py). -/
namespace Go.Proofs.Ytglekfgoadehbaa.V
open Go Go.Proofs
set_option maxRecDepth 100000
theorem index_Leg {f : Nat} {fs cs : List AV} {Z : Im} (xs : List Leg) (hn : xs.length ≤ 1000000000000) (t : Tok) (g : Nat → Bool) (Inv : Nat → St → Prop) (st : St) (h0 : Inv 0 st)
    (hs : ∀ k s (hk : k < xs.length), Inv k s → VCalls Try.prog Z f (fs ++ [Leg.a xs[k]] ++ cs) s (fun r s' => r = .bool (g k) ∧ Inv (k + 1) s')) :
    VCalls Try.prog Z 95 [.sl (xs.map Leg.a) t, .clo f fs cs] st (fun r s => r = .int .i64 (idxI g xs.length) ∧ ∃ j, j ≤ xs.length ∧ Inv j s ∧ (idxI g xs.length = -1 → j = xs.length)) := by
  refine VCalls.of v_slices_IndexFunc_api_Leg_api_Leg_ok (Nat.le_of_ble_eq_true rfl) ?_
  simp only [v_slices_IndexFunc_api_Leg_api_Leg, ↓vD, vU, ↓vMd, vMu, vZ, seval, k_app, k_slc1]
  refine loopf_of (by simp only [asgL, dsts, List.cons_append, List.nil_append, List.append_nil]; rfl) (by simp only [noR, Bool.and_true, Bool.and_false]; rfl) hn (fun k fr s => Inv k s ∧ fr.t 8 = .int .i64 k ∧ ∀ j, j < k → g j = false) ?_ ?_ ?_
  · exact ⟨h0, by simp [↓vD, vU, ↓vMd, vMu, vZ, seval, k_app, k_slc1], by simp⟩
  · rintro k fr s hk hw hf hd ⟨hi, h8, hno⟩
    (repeat' (first | (simp (maxDischargeDepth := 16) only [*, Leg.a, ↓vD, vU, ↓vMd, vMu, vZ, seval, k_app, k_slc1]) | (with_reducible refine gs (fun _ => ?_) (fun _ => ?_)) | (with_reducible refine cs_ (fun _ => ?_) (fun _ => ?_)) | (with_reducible refine appK_a ?_)))
    refine callH_then (hs k s hk hi) ?_
    rintro r s' ⟨rfl, hi'⟩
    (repeat' (first | (simp (maxDischargeDepth := 16) only [*, Leg.a, ↓vD, vU, ↓vMd, vMu, vZ, seval, k_app, k_slc1]) | (with_reducible refine gs (fun _ => ?_) (fun _ => ?_)) | (with_reducible refine cs_ (fun _ => ?_) (fun _ => ?_)) | (with_reducible refine appK_a ?_)))
    · exact ⟨_, St.le.refl _, (idx_hit hk hno (by assumption)).symm, k + 1, hk, hi', fun e => by rw [idx_hit hk hno (by assumption)] at e; omega⟩
    · refine ⟨_, St.le.refl _, hi', fun j hj => ?_⟩
      rcases Nat.lt_succ_iff_lt_or_eq.1 hj with hj | rfl
      · exact hno j hj
      · assumption
  · rintro fr s hf hd ⟨hi, h8, hno⟩
    (repeat' (first | (simp (maxDischargeDepth := 16) only [*, ↓vD, vU, ↓vMd, vMu, vZ, seval, k_app, k_slc1]) | (with_reducible refine gs (fun _ => ?_) (fun _ => ?_)) | (with_reducible refine cs_ (fun _ => ?_) (fun _ => ?_)) | (with_reducible refine appK_a ?_)))
    exact ⟨_, St.le.refl _, (idx_none hno).symm, _, Nat.le_refl _, hi, fun _ => rfl⟩
theorem contains_Leg {f : Nat} {fs cs : List AV} {Z : Im} (xs : List Leg) (hn : xs.length ≤ 1000000000000) (t : Tok) (g : Nat → Bool) (Inv : Nat → St → Prop) (st : St) (h0 : Inv 0 st)
    (hs : ∀ k s (hk : k < xs.length), Inv k s → VCalls Try.prog Z f (fs ++ [Leg.a xs[k]] ++ cs) s (fun r s' => r = .bool (g k) ∧ Inv (k + 1) s')) :
    VCalls Try.prog Z 73 [.sl (xs.map Leg.a) t, .clo f fs cs] st (fun r s => r = .bool ((List.range xs.length).any g) ∧ ∃ j, j ≤ xs.length ∧ Inv j s ∧ ((List.range xs.length).any g = false → j = xs.length)) := by
  refine VCalls.of v_slices_ContainsFunc_api_Leg_api_Leg_ok (Nat.le_of_ble_eq_true rfl) ?_
  simp only [v_slices_ContainsFunc_api_Leg_api_Leg, ↓vD, vU, ↓vMd, vMu, vZ, seval, k_app, k_slc1]
  refine callH_then (index_Leg xs hn t g Inv st h0 hs) ?_
  rintro r s ⟨rfl, j, hj, hi, hE⟩
  (repeat' (first | (simp (maxDischargeDepth := 16) only [*, ↓vD, vU, ↓vMd, vMu, vZ, seval, k_app, k_slc1]) | (with_reducible refine gs (fun _ => ?_) (fun _ => ?_)) | (with_reducible refine cs_ (fun _ => ?_) (fun _ => ?_)) | (with_reducible refine appK_a ?_)))
  refine ⟨_, St.le.refl _, idx_any g _, j, hj, hi, fun e => hE ?_⟩
  have := idx_any g xs.length
  rw [e] at this
  simp only [decide_eq_false_iff_not] at this
  rcases idx_cases g xs.length with h | h
  · exact h
  · omega
theorem contains_pLeg {f : Nat} {fs cs : List AV} (xs : List Leg) (hn : xs.length ≤ 1000000000000) (t : Tok) (g : Leg → Bool)
    (hg : ∀ x, VPure Try.prog f (fs ++ [Leg.a x] ++ cs) (.bool (g x))) : VPure Try.prog 73 [.sl (xs.map Leg.a) t, .clo f fs cs] (.bool (xs.any g)) := by
  intro Z st
  refine (contains_Leg xs hn t (fun k => (xs[k]?.map g).getD false) (fun _ s => s = st) st rfl (fun k s hk e => ?_)).mono (fun r s ⟨h1, _, _, h2, _⟩ => ⟨h1.trans (by rw [any_range]), h2⟩)
  subst e
  rw [List.getElem?_eq_getElem hk]
  exact hg _ _ _
end Go.Proofs.Ytglekfgoadehbaa.V
end
section
set_option linter.unusedSimpArgs false
set_option linter.unusedVariables false
/- The compiled functions of the package slot (printed by Print.lean of this work). -/
namespace Go.Proofs.Ytglekfgoadehbaa.V
open Go Go.Proofs
def v_slot_Begins : VFn := ⟨.seq (.reg [⟨some 4, .box (.t 1), none, [], []⟩,
 ⟨some 6, .mov (.c (.sl [] .full)), none, [], []⟩,
 ⟨some 7, .mov (.c (.int .i64 0)), none, [1], []⟩])
(.seq (.reg [⟨some 16, .mov (.t 0), none, [], []⟩,
 ⟨some 17, .load 2 true (.t 4), none, [], []⟩,
 ⟨some 18, .mov (.t 2), none, [], []⟩,
 ⟨some 19, .call 41 [(.t 16), (.t 17), (.t 18)], none, [0, 1, 2], []⟩,
 ⟨some 15, .mov (.t 19), none, [3], []⟩,
 ⟨some 20, .ext (.t 15) 0, none, [4], []⟩,
 ⟨some 21, .ext (.t 15) 1, none, [4], []⟩,
 ⟨some 8, .mov (.t 20), none, [5, 3, 0, 1, 2, 3, 4, 5], []⟩,
 ⟨some 9, .mov (.t 21), none, [6, 7, 0, 1, 2, 3, 4, 5, 6, 7], []⟩])
(.seq (.seq (.reg [⟨some 22, .mov (.t 9), none, [], []⟩,
 ⟨some 23, .bin .neq (.t 22) (.c (.int .i64 0)), none, [0], []⟩,
 ⟨some 24, .mov (.t 23), none, [1], []⟩,
 ⟨some 25, .mov (.t 8), some (24, false), [2], []⟩,
 ⟨some 26, .fad 1 (.t 4), some (24, false), [2], []⟩,
 ⟨some 27, .load 1 false (.t 26), some (24, false), [4, 2], []⟩,
 ⟨some 28, .fad 0 (.t 4), some (24, false), [2], []⟩,
 ⟨some 29, .load 1 false (.t 28), some (24, false), [6, 2], []⟩,
 ⟨some 30, .bin .sub (.t 27) (.t 29), some (24, false), [5, 7, 2], []⟩,
 ⟨some 31, .bin .gtr (.t 25) (.t 30), some (24, false), [3, 8, 2], []⟩,
 ⟨some 32, .pick (.t 24) (.c (.bool true)) (.t 31), none, [2, 9], []⟩])
(.cond (.t 32)
 (.seq (.reg [⟨some 33, .mov (.t 9), none, [], []⟩,
 ⟨some 6, .mov (.c (.sl [] .full)), none, [], []⟩,
 ⟨some 7, .mov (.t 33), none, [0, 1, 0, 1], []⟩])
 (.ret))
 (.skip)))
(.seq (.reg [⟨some 34, .fad 0 (.t 4), none, [], []⟩,
 ⟨some 35, .load 1 false (.t 34), none, [0], []⟩,
 ⟨some 36, .fad 1 (.t 4), none, [], []⟩,
 ⟨some 37, .load 1 false (.t 36), none, [2], []⟩,
 ⟨some 38, .mov (.t 8), none, [], []⟩,
 ⟨some 39, .bin .sub (.t 37) (.t 38), none, [3, 4], []⟩,
 ⟨some 40, .bin .add (.t 39) (.c (.int .i64 1)), none, [5], []⟩,
 ⟨some 41, .build [(.int .i64 0), (.int .i64 0)] [(0, 1, (.t 35)), (1, 1, (.t 40))], none, [1, 6], []⟩,
 ⟨some 42, .bsl 2 [(.t 41)], none, [7], []⟩,
 ⟨some 10, .alloc [(.sl [] .full)], none, [], []⟩,
 ⟨none, .store 1 (.t 10) (.t 42), none, [9, 8, 0, 1, 2, 3, 4, 5, 6, 7, 8, 9], []⟩])
(.seq (.reg [⟨some 11, .alloc [(.int .i64 0)], none, [], []⟩,
 ⟨none, .store 1 (.t 11) (.c (.int .i64 0)), none, [0, 0], []⟩])
(.seq (.seq (.reg [⟨some 43, .mov (.t 2), none, [], []⟩,
 ⟨some 44, .len (.t 43), none, [0], []⟩,
 ⟨some 45, .mov (.c (.int .i64 0)), none, [], []⟩])
(.block 0
 (.loop
 (.seq (.reg [⟨some 46, .bin .lss (.t 45) (.t 44), none, [], []⟩])
 (.seq (.cond (.t 46)
 (.skip)
 (.exit 0))
 (.seq (.block 1
 (.seq (.reg [⟨some 47, .iad 3 (.t 43) (.t 45), none, [], []⟩,
 ⟨some 48, .load 3 true (.t 47), none, [0], []⟩,
 ⟨some 13, .alloc [(.int .i64 0), (.int .i64 0), (.int .i64 0)], none, [], []⟩,
 ⟨none, .store 3 (.t 13) (.t 48), none, [2, 1, 0, 1, 2], []⟩])
 (.seq (.seq (.reg [⟨some 49, .mov (.t 0), none, [], []⟩,
 ⟨some 50, .load 2 true (.t 4), none, [], []⟩,
 ⟨some 51, .fad 1 (.t 13), none, [], []⟩,
 ⟨some 52, .load 2 true (.t 51), none, [2], []⟩,
 ⟨some 53, .call 42 [(.t 49), (.t 50), (.t 52)], none, [0, 1, 3], []⟩])
 (.block 2
 (.rng (.t 53) [54]
 (.reg [⟨some 14, .alloc [(.int .i64 0), (.int .i64 0)], none, [], []⟩,
 ⟨none, .store 2 (.t 14) (.t 54), none, [0, 0], []⟩])
 (.block 3
 (.reg [⟨some 55, .load 1 false (.t 10), none, [], []⟩,
 ⟨some 56, .fad 0 (.t 14), none, [], []⟩,
 ⟨some 57, .load 1 false (.t 56), none, [1], []⟩,
 ⟨some 58, .fad 0 (.t 13), none, [], []⟩,
 ⟨some 59, .load 1 false (.t 58), none, [3], []⟩,
 ⟨some 60, .bin .sub (.t 57) (.t 59), none, [2, 4], []⟩,
 ⟨some 61, .bin .add (.t 60) (.c (.int .i64 1)), none, [5], []⟩,
 ⟨some 62, .load 1 false (.t 11), none, [], []⟩,
 ⟨some 63, .bin .sub (.t 61) (.t 62), none, [6, 7], []⟩,
 ⟨some 64, .fad 1 (.t 14), none, [], []⟩,
 ⟨some 65, .load 1 false (.t 64), none, [9], []⟩,
 ⟨some 66, .load 1 false (.t 11), none, [], []⟩,
 ⟨some 67, .bin .sub (.t 65) (.t 66), none, [10, 11], []⟩,
 ⟨some 68, .build [(.int .i64 0), (.int .i64 0)] [(0, 1, (.t 63)), (1, 1, (.t 67))], none, [8, 12], []⟩,
 ⟨some 69, .call 43 [(.t 55), (.t 68)], none, [0, 13], []⟩,
 ⟨none, .store 1 (.t 10) (.t 69), none, [14, 14, 0, 1, 2, 3, 4, 5, 6, 7, 8, 9, 10, 11, 12, 13, 14], []⟩])))))
 (.reg [⟨some 70, .load 1 false (.t 11), none, [], []⟩,
 ⟨some 71, .fad 0 (.t 13), none, [], []⟩,
 ⟨some 72, .load 1 false (.t 71), none, [1], []⟩,
 ⟨some 73, .bin .add (.t 70) (.t 72), none, [0, 2], []⟩,
 ⟨none, .store 1 (.t 11) (.t 73), none, [3, 0, 1, 2, 3], []⟩]))))
 (.reg [⟨some 74, .bin .add (.t 45) (.c (.int .i64 1)), none, [], []⟩,
 ⟨some 45, .mov (.t 74), none, [0], []⟩])))))))
(.seq (.seq (.reg [⟨some 75, .load 1 false (.t 10), none, [], []⟩,
 ⟨some 76, .len (.t 75), none, [0], []⟩,
 ⟨some 77, .bin .eql (.t 76) (.c (.int .i64 0)), none, [1], []⟩])
(.cond (.t 77)
 (.seq (.reg [⟨some 6, .mov (.c (.sl [] .full)), none, [], []⟩,
 ⟨some 7, .mov (.c (.int .i64 0)), none, [0, 0], []⟩])
 (.ret))
 (.skip)))
(.seq (.reg [⟨some 78, .load 1 false (.t 10), none, [], []⟩,
 ⟨some 6, .mov (.t 78), none, [0, 0], []⟩,
 ⟨some 7, .mov (.c (.int .i64 0)), none, [1, 0, 1], []⟩])
(.ret)))))))),
[.t 6, .t 7], 79⟩
theorem v_slot_Begins_ok : compF Try.prog 23 = some v_slot_Begins := by kernel_rfl
def v_slot_check : VFn := ⟨.seq (.reg [⟨some 4, .box (.t 1), none, [], []⟩,
 ⟨some 6, .mov (.c (.int .i64 0)), none, [], []⟩,
 ⟨some 7, .mov (.c (.int .i64 0)), none, [1], []⟩])
(.seq (.seq (.reg [⟨some 11, .mov (.t 0), none, [], []⟩,
 ⟨some 12, .call 46 [(.t 11)], none, [0], []⟩,
 ⟨some 13, .un .not (.t 12), none, [1], []⟩])
(.cond (.t 13)
 (.seq (.reg [⟨some 6, .mov (.c (.int .i64 0)), none, [], []⟩,
 ⟨some 7, .mov (.c (.int .i64 5)), none, [0, 0], []⟩])
 (.ret))
 (.skip)))
(.seq (.reg [⟨some 15, .mov (.t 2), none, [], []⟩,
 ⟨some 16, .call 47 [(.t 15)], none, [0], []⟩,
 ⟨some 14, .mov (.t 16), none, [1], []⟩,
 ⟨some 17, .ext (.t 14) 0, none, [2], []⟩,
 ⟨some 18, .ext (.t 14) 1, none, [2], []⟩,
 ⟨some 8, .mov (.t 17), none, [3, 1, 0, 1, 2, 3], []⟩,
 ⟨some 9, .mov (.t 18), none, [4, 5, 0, 1, 2, 3, 4, 5], []⟩])
(.seq (.reg [⟨some 10, .mov (.c (.clo 70 [] [])), none, [], []⟩])
(.seq (.block 0
 (.seq (.reg [⟨some 20, .mov (.t 9), none, [], []⟩,
 ⟨some 21, .bin .neq (.t 20) (.c (.int .i64 0)), none, [0], []⟩,
 ⟨some 22, .mov (.t 21), none, [1], []⟩,
 ⟨some 23, .fad 0 (.t 4), some (22, false), [2], []⟩,
 ⟨some 24, .load 1 false (.t 23), some (22, false), [3, 2], []⟩,
 ⟨some 25, .fad 1 (.t 4), some (22, false), [2], []⟩,
 ⟨some 26, .load 1 false (.t 25), some (22, false), [5, 2], []⟩,
 ⟨some 27, .bin .geq (.t 24) (.t 26), some (22, false), [4, 6, 2], []⟩,
 ⟨some 28, .pick (.t 22) (.c (.bool true)) (.t 27), none, [2, 7], []⟩,
 ⟨some 29, .mov (.t 28), none, [8, 2], []⟩,
 ⟨some 30, .fad 1 (.t 4), some (29, false), [9], []⟩,
 ⟨some 31, .load 1 false (.t 30), some (29, false), [10, 9], []⟩,
 ⟨some 32, .fad 0 (.t 4), some (29, false), [9], []⟩,
 ⟨some 33, .load 1 false (.t 32), some (29, false), [12, 9], []⟩,
 ⟨some 34, .bin .sub (.t 31) (.t 33), some (29, false), [11, 13, 9], []⟩,
 ⟨some 35, .conv .u64 (.t 34), some (29, false), [14, 9], []⟩,
 ⟨some 36, .bin .gtr (.t 35) (.c (.int .u64 4096)), some (29, false), [15, 9], []⟩,
 ⟨some 37, .pick (.t 29) (.c (.bool true)) (.t 36), none, [9, 16], []⟩,
 ⟨some 19, .mov (.t 37), none, [17, 9], []⟩])
 (.cond (.t 19)
 (.seq (.reg [⟨some 6, .mov (.c (.int .i64 0)), none, [], []⟩,
 ⟨some 7, .mov (.c (.int .i64 2)), none, [0, 0], []⟩])
 (.ret))
 (.seq (.reg [⟨some 39, .fad 0 (.t 4), none, [], []⟩,
 ⟨some 40, .load 1 false (.t 39), none, [0], []⟩,
 ⟨some 41, .call 72 [(.t 40)], none, [1], []⟩,
 ⟨some 42, .mov (.t 41), none, [2, 2], []⟩,
 ⟨some 43, .fad 1 (.t 4), some (42, false), [3], []⟩,
 ⟨some 44, .load 1 false (.t 43), some (42, false), [4, 3], []⟩,
 ⟨some 45, .call 72 [(.t 44)], some (42, false), [5, 3, 3], []⟩,
 ⟨some 46, .pick (.t 42) (.c (.bool true)) (.t 45), none, [3, 6], []⟩,
 ⟨some 47, .mov (.t 46), none, [7, 6], []⟩,
 ⟨some 48, .mov (.t 2), some (47, false), [8], []⟩,
 ⟨some 49, .mov (.t 10), some (47, false), [8], []⟩,
 ⟨some 50, .call 73 [(.t 48), (.t 49)], some (47, false), [9, 10, 8, 8], []⟩,
 ⟨some 51, .pick (.t 47) (.c (.bool true)) (.t 50), none, [8, 11], []⟩,
 ⟨some 38, .mov (.t 51), none, [12, 11], []⟩])
 (.cond (.t 38)
 (.seq (.reg [⟨some 6, .mov (.c (.int .i64 0)), none, [], []⟩,
 ⟨some 7, .mov (.c (.int .i64 10)), none, [0, 0], []⟩])
 (.ret))
 (.skip))))))
(.seq (.reg [⟨some 52, .mov (.t 8), none, [], []⟩,
 ⟨some 6, .mov (.t 52), none, [0, 0], []⟩,
 ⟨some 7, .mov (.c (.int .i64 0)), none, [1, 0, 1], []⟩])
(.ret)))))),
[.t 6, .t 7], 53⟩
theorem v_slot_check_ok : compF Try.prog 41 = some v_slot_check := by kernel_rfl
def v_slot_low : VFn := ⟨.seq (.reg [⟨some 3, .box (.t 0), none, [], []⟩,
 ⟨some 4, .box (.t 1), none, [], []⟩,
 ⟨some 5, .box (.t 2), none, [], []⟩,
 ⟨some 6, .mov (.c .nilf), none, [], []⟩])
(.seq (.reg [⟨some 7, .mkf 74 [] [(.t 4), (.t 3), (.t 5)], none, [], []⟩,
 ⟨some 6, .mov (.t 7), none, [0, 0], []⟩])
(.ret)),
[.t 6], 8⟩
theorem v_slot_low_ok : compF Try.prog 42 = some v_slot_low := by kernel_rfl
def v_slot_without : VFn := ⟨.seq (.reg [⟨some 3, .box (.t 1), none, [], []⟩,
 ⟨some 4, .mov (.c (.sl [] .full)), none, [], []⟩])
(.seq (.reg [⟨some 10, .mov (.t 0), none, [], []⟩,
 ⟨some 11, .slc 2 (.t 10) none (some (.c (.int .i64 0))) (some (.c (.int .i64 0))), none, [0], []⟩,
 ⟨some 5, .mov (.t 11), none, [1, 0, 1], []⟩])
(.seq (.seq (.reg [⟨some 12, .mov (.t 0), none, [], []⟩,
 ⟨some 13, .len (.t 12), none, [0], []⟩,
 ⟨some 14, .mov (.c (.int .i64 0)), none, [], []⟩])
(.block 0
 (.loop
 (.seq (.reg [⟨some 15, .bin .lss (.t 14) (.t 13), none, [], []⟩])
 (.seq (.cond (.t 15)
 (.skip)
 (.exit 0))
 (.seq (.block 1
 (.seq (.reg [⟨some 16, .iad 2 (.t 12) (.t 14), none, [], []⟩,
 ⟨some 17, .load 2 true (.t 16), none, [0], []⟩,
 ⟨some 7, .alloc [(.int .i64 0), (.int .i64 0)], none, [], []⟩,
 ⟨none, .store 2 (.t 7) (.t 17), none, [2, 1, 0, 1, 2], []⟩])
 (.seq (.reg [⟨some 18, .fad 0 (.t 7), none, [], []⟩,
 ⟨some 19, .load 1 false (.t 18), none, [0], []⟩,
 ⟨some 20, .fad 1 (.t 7), none, [], []⟩,
 ⟨some 21, .load 1 false (.t 20), none, [2], []⟩,
 ⟨some 22, .fad 0 (.t 3), none, [], []⟩,
 ⟨some 23, .load 1 false (.t 22), none, [4], []⟩,
 ⟨some 24, .mnx true (.t 21) [(.t 23)], none, [3, 5], []⟩,
 ⟨some 25, .build [(.int .i64 0), (.int .i64 0)] [(0, 1, (.t 19)), (1, 1, (.t 24))], none, [1, 6], []⟩,
 ⟨some 26, .fad 0 (.t 7), none, [], []⟩,
 ⟨some 27, .load 1 false (.t 26), none, [8], []⟩,
 ⟨some 28, .fad 1 (.t 3), none, [], []⟩,
 ⟨some 29, .load 1 false (.t 28), none, [10], []⟩,
 ⟨some 30, .mnx false (.t 27) [(.t 29)], none, [9, 11], []⟩,
 ⟨some 31, .fad 1 (.t 7), none, [], []⟩,
 ⟨some 32, .load 1 false (.t 31), none, [13], []⟩,
 ⟨some 33, .build [(.int .i64 0), (.int .i64 0)] [(0, 1, (.t 30)), (1, 1, (.t 32))], none, [12, 14], []⟩,
 ⟨some 34, .build [(.int .i64 0), (.int .i64 0), (.int .i64 0), (.int .i64 0)] [(0, 2, (.t 25)), (2, 2, (.t 33))], none, [7, 15], []⟩,
 ⟨some 35, .mov (.c (.int .i64 0)), none, [], []⟩])
 (.block 2
 (.loop
 (.seq (.reg [⟨some 36, .bin .lss (.t 35) (.c (.int .i64 2)), none, [], []⟩])
 (.seq (.cond (.t 36)
 (.skip)
 (.exit 2))
 (.seq (.block 3
 (.seq (.reg [⟨some 37, .ixa 2 2 true (.t 34) (.t 35), none, [], []⟩,
 ⟨some 9, .alloc [(.int .i64 0), (.int .i64 0)], none, [], []⟩,
 ⟨none, .store 2 (.t 9) (.t 37), none, [1, 0, 0, 1], []⟩])
 (.seq (.reg [⟨some 38, .fad 0 (.t 9), none, [], []⟩,
 ⟨some 39, .load 1 false (.t 38), none, [0], []⟩,
 ⟨some 40, .fad 1 (.t 9), none, [], []⟩,
 ⟨some 41, .load 1 false (.t 40), none, [2], []⟩,
 ⟨some 42, .bin .lss (.t 39) (.t 41), none, [1, 3], []⟩])
 (.cond (.t 42)
 (.reg [⟨some 43, .mov (.t 5), none, [], []⟩,
 ⟨some 44, .load 2 true (.t 9), none, [], []⟩,
 ⟨some 45, .bsl 2 [(.t 44)], none, [1], []⟩,
 ⟨some 46, .app 2 16 (.t 43) (.t 45), none, [0, 2], []⟩,
 ⟨some 5, .mov (.t 46), none, [3, 3, 0, 1, 2, 3], []⟩])
 (.skip)))))
 (.reg [⟨some 47, .bin .add (.t 35) (.c (.int .i64 1)), none, [], []⟩,
 ⟨some 35, .mov (.t 47), none, [0], []⟩])))))))))
 (.reg [⟨some 48, .bin .add (.t 14) (.c (.int .i64 1)), none, [], []⟩,
 ⟨some 14, .mov (.t 48), none, [0], []⟩])))))))
(.seq (.reg [⟨some 49, .mov (.t 5), none, [], []⟩,
 ⟨some 4, .mov (.t 49), none, [0, 0], []⟩])
(.ret)))),
[.t 4], 50⟩
theorem v_slot_without_ok : compF Try.prog 43 = some v_slot_without := by kernel_rfl
def v_slot_Length : VFn := ⟨.seq (.reg [⟨some 2, .mov (.c (.int .i64 0)), none, [], []⟩,
 ⟨some 3, .mov (.c (.int .i64 0)), none, [0], []⟩])
(.seq (.reg [⟨some 4, .mov (.c (.int .i64 0)), none, [], []⟩])
(.seq (.seq (.reg [⟨some 7, .mov (.t 0), none, [], []⟩,
 ⟨some 8, .len (.t 7), none, [0], []⟩,
 ⟨some 9, .mov (.c (.int .i64 0)), none, [], []⟩])
(.block 0
 (.loop
 (.seq (.reg [⟨some 10, .bin .lss (.t 9) (.t 8), none, [], []⟩])
 (.seq (.cond (.t 10)
 (.skip)
 (.exit 0))
 (.seq (.block 1
 (.seq (.reg [⟨some 11, .iad 3 (.t 7) (.t 9), none, [], []⟩,
 ⟨some 12, .load 3 true (.t 11), none, [0], []⟩,
 ⟨some 6, .alloc [(.int .i64 0), (.int .i64 0), (.int .i64 0)], none, [], []⟩,
 ⟨none, .store 3 (.t 6) (.t 12), none, [2, 1, 0, 1, 2], []⟩])
 (.seq (.seq (.reg [⟨some 13, .fad 0 (.t 6), none, [], []⟩,
 ⟨some 14, .load 1 false (.t 13), none, [0], []⟩,
 ⟨some 15, .bin .lss (.t 14) (.c (.int .i64 1)), none, [1], []⟩,
 ⟨some 16, .mov (.t 15), none, [2], []⟩,
 ⟨some 17, .fad 0 (.t 6), some (16, false), [3], []⟩,
 ⟨some 18, .load 1 false (.t 17), some (16, false), [4, 3], []⟩,
 ⟨some 19, .bin .gtr (.t 18) (.c (.int .i64 4096)), some (16, false), [5, 3], []⟩,
 ⟨some 20, .pick (.t 16) (.c (.bool true)) (.t 19), none, [3, 6], []⟩])
 (.cond (.t 20)
 (.seq (.reg [⟨some 2, .mov (.c (.int .i64 0)), none, [], []⟩,
 ⟨some 3, .mov (.c (.int .i64 2)), none, [0, 0], []⟩])
 (.ret))
 (.skip)))
 (.reg [⟨some 21, .mov (.t 4), none, [], []⟩,
 ⟨some 22, .fad 0 (.t 6), none, [], []⟩,
 ⟨some 23, .load 1 false (.t 22), none, [1], []⟩,
 ⟨some 24, .bin .add (.t 21) (.t 23), none, [0, 2], []⟩,
 ⟨some 4, .mov (.t 24), none, [3, 0, 1, 2, 3], []⟩]))))
 (.reg [⟨some 25, .bin .add (.t 9) (.c (.int .i64 1)), none, [], []⟩,
 ⟨some 9, .mov (.t 25), none, [0], []⟩])))))))
(.seq (.seq (.reg [⟨some 26, .mov (.t 0), none, [], []⟩,
 ⟨some 27, .len (.t 26), none, [0], []⟩,
 ⟨some 28, .bin .eql (.t 27) (.c (.int .i64 0)), none, [1], []⟩,
 ⟨some 29, .mov (.t 28), none, [2], []⟩,
 ⟨some 30, .mov (.t 0), some (29, false), [3], []⟩,
 ⟨some 31, .len (.t 30), some (29, false), [4, 3], []⟩,
 ⟨some 32, .bin .gtr (.t 31) (.c (.int .i64 16)), some (29, false), [5, 3], []⟩,
 ⟨some 33, .pick (.t 29) (.c (.bool true)) (.t 32), none, [3, 6], []⟩])
(.cond (.t 33)
 (.seq (.reg [⟨some 2, .mov (.c (.int .i64 0)), none, [], []⟩,
 ⟨some 3, .mov (.c (.int .i64 2)), none, [0, 0], []⟩])
 (.ret))
 (.skip)))
(.seq (.reg [⟨some 34, .mov (.t 4), none, [], []⟩,
 ⟨some 2, .mov (.t 34), none, [0, 0], []⟩,
 ⟨some 3, .mov (.c (.int .i64 0)), none, [1, 0, 1], []⟩])
(.ret))))),
[.t 2, .t 3], 35⟩
theorem v_slot_Length_ok : compF Try.prog 47 = some v_slot_Length := by kernel_rfl
def v_slot_check_1 : VFn := ⟨.seq (.reg [⟨some 1, .box (.t 0), none, [], []⟩,
 ⟨some 2, .mov (.c (.bool false)), none, [], []⟩])
(.seq (.reg [⟨some 3, .fad 1 (.t 1), none, [], []⟩,
 ⟨some 4, .load 2 true (.t 3), none, [0], []⟩,
 ⟨some 5, .call 71 [(.t 4)], none, [1], []⟩,
 ⟨some 6, .un .not (.t 5), none, [2], []⟩,
 ⟨some 2, .mov (.t 6), none, [3, 2, 0, 1, 2, 3], []⟩])
(.ret)),
[.t 2], 7⟩
theorem v_slot_check_1_ok : compF Try.prog 70 = some v_slot_check_1 := by kernel_rfl
def v_slot_far : VFn := ⟨.seq (.reg [⟨some 2, .mov (.c (.bool false)), none, [], []⟩])
(.seq (.reg [⟨some 3, .mov (.t 0), none, [], []⟩,
 ⟨some 4, .bin .lss (.t 3) (.c (.int .i64 (-1099511627776))), none, [0], []⟩,
 ⟨some 5, .mov (.t 4), none, [1], []⟩,
 ⟨some 6, .mov (.t 0), some (5, false), [2], []⟩,
 ⟨some 7, .bin .gtr (.t 6) (.c (.int .i64 1099511627776)), some (5, false), [3, 2], []⟩,
 ⟨some 8, .pick (.t 5) (.c (.bool true)) (.t 7), none, [2, 4], []⟩,
 ⟨some 2, .mov (.t 8), none, [5, 2, 0, 1, 2, 3, 4, 5], []⟩])
(.ret)),
[.t 2], 9⟩
theorem v_slot_far_ok : compF Try.prog 72 = some v_slot_far := by kernel_rfl
def v_slot_low_1 : VFn := ⟨.seq (.dreg [⟨some 9, .fad 0 (.t 1), none, [], []⟩,
 ⟨some 10, .load 1 false (.t 9), none, [0], []⟩,
 ⟨some 11, .load 1 false (.t 2), none, [], []⟩,
 ⟨some 12, .fad 0 (.t 1), none, [], []⟩,
 ⟨some 13, .load 1 false (.t 12), none, [3], []⟩,
 ⟨some 14, .call 75 [(.t 11), (.t 13)], none, [2, 4], []⟩,
 ⟨some 6, .alloc [(.int .i64 0), (.int .i64 0)], none, [], []⟩,
 ⟨some 5, .mov (.t 10), none, [1, 5, 0, 1, 6], []⟩,
 ⟨none, .store 2 (.t 6) (.t 14), none, [6, 5, 7, 0, 1, 2, 3, 4, 5, 6, 7], []⟩])
(.seq (.seq (.reg [⟨some 15, .load 1 false (.t 2), none, [], []⟩,
 ⟨some 16, .len (.t 15), none, [0], []⟩,
 ⟨some 17, .mov (.c (.int .i64 0)), none, [], []⟩])
(.block 0
 (.loop
 (.seq (.reg [⟨some 18, .bin .lss (.t 17) (.t 16), none, [], []⟩])
 (.seq (.cond (.t 18)
 (.skip)
 (.exit 0))
 (.seq (.block 1
 (.seq (.reg [⟨some 19, .iad 3 (.t 15) (.t 17), none, [], []⟩,
 ⟨some 20, .load 3 true (.t 19), none, [0], []⟩,
 ⟨some 8, .alloc [(.int .i64 0), (.int .i64 0), (.int .i64 0)], none, [], []⟩,
 ⟨none, .store 3 (.t 8) (.t 20), none, [2, 1, 0, 1, 2], []⟩])
 (.seq (.seq (.reg [⟨some 21, .fad 0 (.t 8), none, [], []⟩,
 ⟨some 22, .load 1 false (.t 21), none, [0], []⟩,
 ⟨some 23, .fad 0 (.t 1), none, [], []⟩,
 ⟨some 24, .load 1 false (.t 23), none, [2], []⟩,
 ⟨some 25, .bin .leq (.t 22) (.t 24), none, [1, 3], []⟩,
 ⟨some 26, .mov (.t 25), none, [4], []⟩,
 ⟨some 27, .fad 0 (.t 8), some (26, false), [5], []⟩,
 ⟨some 28, .load 1 false (.t 27), some (26, false), [6, 5], []⟩,
 ⟨some 29, .fad 1 (.t 1), some (26, false), [5], []⟩,
 ⟨some 30, .load 1 false (.t 29), some (26, false), [8, 5], []⟩,
 ⟨some 31, .bin .geq (.t 28) (.t 30), some (26, false), [7, 9, 5], []⟩,
 ⟨some 32, .pick (.t 26) (.c (.bool true)) (.t 31), none, [5, 10], []⟩])
 (.cond (.t 32)
 (.exit 1)
 (.skip)))
 (.seq (.seq (.reg [⟨some 33, .load 2 true (.t 3), none, [], []⟩,
 ⟨some 34, .load 2 true (.t 6), none, [], []⟩,
 ⟨some 35, .call 76 [(.t 33), (.t 34)], none, [0, 1], []⟩,
 ⟨some 36, .un .not (.t 35), none, [2], []⟩,
 ⟨some 37, .mov (.t 36), none, [3, 2], []⟩,
 ⟨some 38, .mov (.t 0), some (37, true), [4], []⟩,
 ⟨some 39, .mov (.t 5), some (37, true), [4], []⟩,
 ⟨some 40, .fad 0 (.t 8), some (37, true), [4], []⟩,
 ⟨some 41, .load 1 false (.t 40), some (37, true), [7, 4], []⟩,
 ⟨some 42, .build [(.int .i64 0), (.int .i64 0)] [(0, 1, (.t 39)), (1, 1, (.t 41))], some (37, true), [6, 8, 4], []⟩,
 ⟨some 43, .callv (.t 38) [(.t 42)], some (37, true), [5, 9, 4, 4], []⟩,
 ⟨some 44, .un .not (.t 43), some (37, true), [10, 4], []⟩,
 ⟨some 45, .pick (.t 37) (.t 44) (.c (.bool false)), none, [4, 11], []⟩])
 (.cond (.t 45)
 (.ret)
 (.skip)))
 (.dreg [⟨some 46, .fad 0 (.t 8), none, [], []⟩,
 ⟨some 47, .load 1 false (.t 46), none, [0], []⟩,
 ⟨some 48, .fad 1 (.t 8), none, [], []⟩,
 ⟨some 49, .load 2 true (.t 48), none, [2], []⟩,
 ⟨some 5, .mov (.t 47), none, [1, 0, 1], []⟩,
 ⟨none, .store 2 (.t 6) (.t 49), none, [3, 4, 0, 1, 2, 3, 4], []⟩])))))
 (.reg [⟨some 50, .bin .add (.t 17) (.c (.int .i64 1)), none, [], []⟩,
 ⟨some 17, .mov (.t 50), none, [0], []⟩])))))))
(.seq (.reg [⟨some 51, .load 2 true (.t 3), none, [], []⟩,
 ⟨some 52, .load 2 true (.t 6), none, [], []⟩,
 ⟨some 53, .call 76 [(.t 51), (.t 52)], none, [0, 1], []⟩,
 ⟨some 54, .un .not (.t 53), none, [2], []⟩])
(.cond (.t 54)
 (.reg [⟨some 55, .mov (.t 0), none, [], []⟩,
 ⟨some 56, .mov (.t 5), none, [], []⟩,
 ⟨some 57, .fad 1 (.t 1), none, [], []⟩,
 ⟨some 58, .load 1 false (.t 57), none, [2], []⟩,
 ⟨some 59, .build [(.int .i64 0), (.int .i64 0)] [(0, 1, (.t 56)), (1, 1, (.t 58))], none, [1, 3], []⟩,
 ⟨some 60, .callv (.t 55) [(.t 59)], none, [0, 4], []⟩])
 (.skip)))),
[], 61⟩
theorem v_slot_low_1_ok : compF Try.prog 74 = some v_slot_low_1 := by kernel_rfl
end Go.Proofs.Ytglekfgoadehbaa.V
end
section
set_option linter.unusedSimpArgs false
set_option linter.unusedVariables false
/- What the package slot's functions compute: Length, far, check, without, end. -/
namespace Go.Proofs.Ytglekfgoadehbaa.V
open Go Go.Proofs
set_option maxRecDepth 100000
set_option maxHeartbeats 4000000
theorem Length_v (l : List Leg) (hn : l.length ≤ 1000000000) (t : Tok) : VPure Try.prog 47 [.sl (l.map Leg.a) t] (.tup [num (lengthF l).1, num (lengthF l).2]) := by
  refine VPure.of v_slot_Length_ok (Nat.le_of_ble_eq_true rfl) (fun Z st => ?_)
  have HB : Hid (∀ k (h : k < l.length), badD l[k] = true → lengthF l = (0, 2)) := ⟨fun k h hb => by
    have : l.any badD = true := List.any_eq_true.2 ⟨_, List.getElem_mem h, hb⟩
    simp [lengthF, this]⟩
  simp only [v_slot_Length, ↓vD, vU, ↓vMd, vMu, vZ, seval, k_app, k_slc1]
  (repeat' (first | (simp (maxDischargeDepth := 16) only [*, num, vX, ↓vD, vU, ↓vMd, vMu, vZ, seval]) | (simp (disch := first | assumption | omega | rfl | exact fun _ => rfl) only [num, vP]) | ((with_reducible first | apply gsnd | apply csnd | apply gsd | apply csd | apply gsn | apply csn | apply gs | apply cs_) <;> intro _) | (with_reducible refine objQ_i (fun _ _ => ?_); repeat with_reducible refine imp_i (fun _ => ?_))))
  refine loopf_of (len := l.length) (by simp only [asgL, dsts, List.cons_append, List.nil_append, List.append_nil]; rfl) (by simp only [noR, Bool.and_true, Bool.and_false]; rfl) (by omega) (fun k fr s => ∃ n, s = st ∧ fr.t 9 = .int .i64 k ∧ fr.t 4 = .int .i64 n ∧ Hid (n = sumD (l.take k) ∧ (l.take k).any badD = false) ∧ 0 ≤ n ∧ n ≤ 4096 * k) ?_ ?_ ?_
  · exact ⟨0, rfl, by simp [↓vD, vU, ↓vMd, vMu, vZ, seval, k_app, k_slc1], by simp [↓vD, vU, ↓vMd, vMu, vZ, seval, k_app, k_slc1], ⟨by simp [sumD]⟩, by omega, by omega⟩
  · rintro k fr s hk hw hfr hd ⟨n, rfl, h9, h4, HK, h0, hmx⟩
    obtain ⟨x, hx⟩ : ∃ x, l[k] = x := ⟨_, rfl⟩
    have HX := Hid.mk hx
    (repeat' (first | (simp (maxDischargeDepth := 16) only [*, Leg.a, num, vX, ↓vD, vU, ↓vMd, vMu, vZ, seval]) | (simp (disch := first | assumption | omega | rfl | exact fun _ => rfl) only [Leg.a, num, vP]) | ((with_reducible first | apply gsnd | apply csnd | apply gsd | apply csd | apply gsn | apply csn | apply gs | apply cs_) <;> intro _) | (with_reducible refine objQ_i (fun _ _ => ?_); repeat with_reducible refine imp_i (fun _ => ?_))))
    · rw [HB.out k hk (by rw [HX.out]; simp only [badD, Bool.or_eq_true, decide_eq_true_eq]; omega)]
    · rw [HB.out k hk (by rw [HX.out]; simp only [badD, Bool.or_eq_true, decide_eq_true_eq]; omega)]
    · rename_i h1 h2
      refine ⟨s, by (refine ⟨fun i o e => ?_, fun _ h => h⟩; revert e; simp only [St.ins, St.del, add_objs, kill_objs]; (repeat' split); all_goals (first | exact id | (intros; contradiction) | (intros; subst_vars; contradiction) | (intros; simp_all; done) | (intros; subst_vars; simp_all; done))), n + x.d, rfl, rfl, ⟨by rw [sumD_take hk, HX.out, HK.out.1], ?_⟩, by omega, by omega⟩
      rw [List.take_add_one, List.getElem?_eq_getElem hk, List.any_append, HK.out.2, HX.out]
      simp [badD]; omega
  · rintro fr s hfr hd ⟨n, rfl, h9, h4, HK, h0, hmx⟩
    have hk := HK.out
    rw [List.take_length] at hk
    have e : lengthF l = if l.length = 0 ∨ 16 < l.length then (0, 2) else (n, 0) := by
      unfold lengthF; rw [hk.2, ← hk.1]; simp only [Bool.false_or, Bool.or_eq_true, decide_eq_true_eq]
    clear hk HK
    by_cases hz : l.length = 0
    · rw [if_pos (.inl hz)] at e
      rw [e]
      clear e
      (repeat' (first | (simp (maxDischargeDepth := 16) only [*, num, vX, ↓vD, vU, ↓vMd, vMu, vZ, seval]) | (simp (disch := first | assumption | omega | rfl | exact fun _ => rfl) only [num, vP]) | ((with_reducible first | apply gsnd | apply csnd | apply gsd | apply csd | apply gsn | apply csn | apply gs | apply cs_) <;> intro _) | (with_reducible refine objQ_i (fun _ _ => ?_); repeat with_reducible refine imp_i (fun _ => ?_))))
    · by_cases h16 : 16 < l.length
      · rw [if_pos (.inr h16)] at e
        rw [e]
        clear e
        (repeat' (first | (simp (maxDischargeDepth := 16) only [*, num, vX, ↓vD, vU, ↓vMd, vMu, vZ, seval]) | (simp (disch := first | assumption | omega | rfl | exact fun _ => rfl) only [num, vP]) | ((with_reducible first | apply gsnd | apply csnd | apply gsd | apply csd | apply gsn | apply csn | apply gs | apply cs_) <;> intro _) | (with_reducible refine objQ_i (fun _ _ => ?_); repeat with_reducible refine imp_i (fun _ => ?_))))
      · rw [if_neg (by omega)] at e
        rw [e]
        clear e
        (repeat' (first | (simp (maxDischargeDepth := 16) only [*, num, vX, ↓vD, vU, ↓vMd, vMu, vZ, seval]) | (simp (disch := first | assumption | omega | rfl | exact fun _ => rfl) only [num, vP]) | ((with_reducible first | apply gsnd | apply csnd | apply gsd | apply csd | apply gsn | apply csn | apply gs | apply cs_) <;> intro _) | (with_reducible refine objQ_i (fun _ _ => ?_); repeat with_reducible refine imp_i (fun _ => ?_))))
theorem far_v (n : Int) : VPure Try.prog 72 [.int .i64 n] (.bool (farF n)) := by
  refine VPure.of v_slot_far_ok (Nat.le_of_ble_eq_true rfl) (fun Z st => ?_)
  simp only [v_slot_far, ↓vD, vU, ↓vMd, vMu, vZ, seval, k_app, k_slc1]
  (repeat' (first | (simp (maxDischargeDepth := 16) only [*, farF, ↓vD, vU, ↓vMd, vMu, vZ, seval, k_app, k_slc1]) | (with_reducible refine gs (fun _ => ?_) (fun _ => ?_)) | (with_reducible refine cs_ (fun _ => ?_) (fun _ => ?_)) | (with_reducible refine appK_a ?_)))
  all_goals simp_all
theorem check1_v (x : Leg) : VPure Try.prog 70 [Leg.a x] (.bool (!mayV x.v)) := by
  refine VPure.of v_slot_check_1_ok (Nat.le_of_ble_eq_true rfl) (fun Z st => ?_)
  simp only [v_slot_check_1, ↓vD, vU, ↓vMd, vMu, vZ, seval, k_app, k_slc1]
  (repeat' (first | (simp (maxDischargeDepth := 16) only [*, Leg.a, ↓vD, vU, ↓vMd, vMu, vZ, seval, k_app, k_slc1]) | (with_reducible refine gs (fun _ => ?_) (fun _ => ?_)) | (with_reducible refine cs_ (fun _ => ?_) (fun _ => ?_)) | (with_reducible refine objQ_i (fun _ _ => ?_); repeat with_reducible refine imp_i (fun _ => ?_)) | (with_reducible refine appK_a ?_) | (with_reducible first | refine callH_use (May_v _ _) ?_ | refine pureQ_use (May_v _ _) ?_)))
theorem u64_sub {m c : Int} (h1 : -9223372036854775808 ≤ m) (h2 : c ≤ 9223372036854775807) (h : m < c) : IntKind.u64.wrap (IntKind.i64.wrap (c - m)) = c - m := by
  simp only [IntKind.wrap, IntKind.bits, IntKind.signed]
  simp
  omega
theorem check_v (f : List Seg) (hf : f.length ≤ 1000000000) (w : Vec) (h1 : -9223372036854775808 ≤ w.m) (h2 : w.c ≤ 9223372036854775807) (l : List Leg) (hl : l.length ≤ 1000000000) (t t' : Tok) :
    VPure Try.prog 41 [.sl (f.map Seg.a) t, .agg [.int .i64 w.m, .int .i64 w.c], .sl (l.map Leg.a) t'] (.tup [num (checkF f w l).1, num (checkF f w l).2]) := by
  refine VPure.of v_slot_check_ok (Nat.le_of_ble_eq_true rfl) (fun Z st => ?_)
  have hm := May_F f (by omega) t
  have hL := Length_v l hl t'
  have hc := contains_pLeg (f := 70) (fs := []) (cs := []) l (by omega) t' (fun x => !mayV x.v) check1_v
  obtain ⟨q, hq⟩ : ∃ q, lengthF l = q := ⟨_, rfl⟩
  obtain ⟨g, hg⟩ : ∃ g, l.any (fun x => !mayV x.v) = g := ⟨_, rfl⟩
  obtain ⟨mf, hmf⟩ : ∃ m, mayF f = m := ⟨_, rfl⟩
  rw [hq] at hL
  rw [hg] at hc
  rw [hmf] at hm
  have HC : Hid (checkF f w l = if mf then (if q.2 ≠ 0 ∨ w.c ≤ w.m ∨ 4096 < w.c - w.m then (0, 2) else if farF w.m || farF w.c || g then (0, 10) else (q.1, 0)) else (0, 5)) := ⟨by unfold checkF; rw [hq, hg, hmf]⟩
  clear hq hg hmf
  unfold num at hL
  obtain ⟨a, ha⟩ : ∃ a, farF w.m = a := ⟨_, rfl⟩
  obtain ⟨b, hb⟩ : ∃ b, farF w.c = b := ⟨_, rfl⟩
  have f1 := far_v w.m
  have f2 := far_v w.c
  rw [ha] at f1 HC
  rw [hb] at f2 HC
  clear ha hb
  simp only [v_slot_check, ↓vD, vU, ↓vMd, vMu, vZ, seval, k_app, k_slc1]
  cases mf with
  | false =>
    (repeat' (first | (simp (maxDischargeDepth := 16) only [*, num, vX, ↓vD, vU, ↓vMd, vMu, vZ, seval]) | (simp (disch := first | assumption | omega | rfl | exact fun _ => rfl) only [num, vP]) | ((with_reducible first | apply gsnd | apply csnd | apply gsd | apply csd | apply gsn | apply csn | apply gs | apply cs_) <;> intro _) | (with_reducible refine objQ_i (fun _ _ => ?_); repeat with_reducible refine imp_i (fun _ => ?_)) | (with_reducible first | refine callH_use (hm) ?_ | refine pureQ_use (hm) ?_)))
    rw [HC.out]; simp
  | true =>
    by_cases hq : q.2 = 0
    case neg =>
      (repeat' (first | (simp (maxDischargeDepth := 16) only [*, num, vX, ↓vD, vU, ↓vMd, vMu, vZ, seval]) | (simp (disch := first | assumption | omega | rfl | exact fun _ => rfl) only [num, vP]) | ((with_reducible first | apply gsnd | apply csnd | apply gsd | apply csd | apply gsn | apply csn | apply gs | apply cs_) <;> intro _) | (with_reducible refine objQ_i (fun _ _ => ?_); repeat with_reducible refine imp_i (fun _ => ?_)) | (with_reducible first | refine callH_use (hm) ?_ | refine pureQ_use (hm) ?_) | (with_reducible first | refine callH_use (hL) ?_ | refine pureQ_use (hL) ?_)))
      all_goals (rw [HC.out]; simp [hq])
    by_cases hw : w.m < w.c
    case neg =>
      have e : checkF f w l = (0, 2) := by rw [HC.out]; simp; intros; omega
      clear HC
      rw [e]
      (repeat' (first | (simp (maxDischargeDepth := 16) only [*, num, vX, ↓vD, vU, ↓vMd, vMu, vZ, seval]) | (simp (disch := first | assumption | omega | rfl | exact fun _ => rfl) only [num, vP]) | ((with_reducible first | apply gsnd | apply csnd | apply gsd | apply csd | apply gsn | apply csn | apply gs | apply cs_) <;> intro _) | (with_reducible refine objQ_i (fun _ _ => ?_); repeat with_reducible refine imp_i (fun _ => ?_)) | (with_reducible first | refine callH_use (hm) ?_ | refine pureQ_use (hm) ?_) | (with_reducible first | refine callH_use (hL) ?_ | refine pureQ_use (hL) ?_)))
    have hu := u64_sub h1 h2 hw
    by_cases hbig : 4096 < w.c - w.m
    · have hdec : decide (4096 < w.c - w.m) = true := by simpa using hbig
      (repeat' (first | (simp (maxDischargeDepth := 16) only [*, num, hu, vX, ↓vD, vU, ↓vMd, vMu, vZ, seval]) | (simp (disch := first | assumption | omega | rfl | exact fun _ => rfl) only [num, hu, vP]) | ((with_reducible first | apply gsnd | apply csnd | apply gsd | apply csd | apply gsn | apply csn | apply gs | apply cs_) <;> intro _) | (with_reducible refine objQ_i (fun _ _ => ?_); repeat with_reducible refine imp_i (fun _ => ?_)) | (with_reducible first | refine callH_use (hm) ?_ | refine pureQ_use (hm) ?_) | (with_reducible first | refine callH_use (hL) ?_ | refine pureQ_use (hL) ?_)))
      all_goals (rw [HC.out]; simp [hbig])
    have hw2 : IntKind.i64.wrap (w.c - w.m) = w.c - w.m := wrap_i64 _ (by omega) (by omega)
    rw [hw2] at hu
    have HN : Hid (checkF f w l = if a || b || g then (0, 10) else (q.1, 0)) := ⟨by rw [HC.out]; simp [hq]; intro h; omega⟩
    clear HC
    cases a <;> cases b <;> cases g <;> ((repeat' (first | (simp (maxDischargeDepth := 16) only [*, num, hu, vX, ↓vD, vU, ↓vMd, vMu, vZ, seval]) | (simp (disch := first | assumption | omega | rfl | exact fun _ => rfl) only [num, hu, vP]) | ((with_reducible first | apply gsnd | apply csnd | apply gsd | apply csd | apply gsn | apply csn | apply gs | apply cs_) <;> intro _) | (with_reducible refine objQ_i (fun _ _ => ?_); repeat with_reducible refine imp_i (fun _ => ?_)) | (with_reducible first | refine callH_use (hm) ?_ | refine pureQ_use (hm) ?_) | (with_reducible first | refine callH_use (hL) ?_ | refine pureQ_use (hL) ?_) | (with_reducible first | refine callH_use (f1) ?_ | refine pureQ_use (f1) ?_) | (with_reducible first | refine callH_use (f2) ?_ | refine pureQ_use (f2) ?_) | (with_reducible first | refine callH_use (hc) ?_ | refine pureQ_use (hc) ?_))))
    all_goals (first | rw [HN.out]; simp)
theorem cut0 (xs : List AV) (t : Tok) (q q' : IntKind) : vslc (.sl xs t) none (some (.int q 0)) (some (.int q' 0)) = some (.sl [] .full) := by
  simp [vslc, bnd]
theorem grab01 (a b c d : AV) : vixa 2 2 true (.agg [a, b, c, d]) (.int .i64 0) = some (.agg [a, b]) := rfl
theorem grab23 (a b c d : AV) : vixa 2 2 true (.agg [a, b, c, d]) (.int .i64 1) = some (.agg [c, d]) := rfl
end Go.Proofs.Ytglekfgoadehbaa.V
end
section
set_option linter.unusedSimpArgs false
set_option linter.unusedVariables false
/- The compiled functions of the package cost (printed by Print.lean of this work). -/
namespace Go.Proofs.Ytglekfgoadehbaa.V
open Go Go.Proofs
def v_cost_Best : VFn := ⟨.seq (.reg [⟨some 7, .box (.t 2), none, [], []⟩,
 ⟨some 10, .mov (.c (.sl [] .full)), none, [], []⟩,
 ⟨some 11, .mov (.c (.int .i64 0)), none, [1], []⟩])
(.seq (.reg [⟨some 16, .mov (.t 0), none, [], []⟩,
 ⟨some 17, .mov (.t 1), none, [], []⟩,
 ⟨some 18, .load 2 true (.t 7), none, [], []⟩,
 ⟨some 19, .mov (.t 3), none, [], []⟩,
 ⟨some 20, .call 37 [(.t 16), (.t 17), (.t 18), (.t 19)], none, [0, 1, 2, 3], []⟩,
 ⟨some 15, .mov (.t 20), none, [4], []⟩,
 ⟨some 21, .ext (.t 15) 0, none, [5], []⟩,
 ⟨some 22, .ext (.t 15) 1, none, [5], []⟩,
 ⟨some 23, .ext (.t 15) 2, none, [5], []⟩,
 ⟨some 13, .alloc [.nilf], none, [], []⟩,
 ⟨some 12, .mov (.t 21), none, [6, 4, 0, 1, 2, 3, 4, 5, 6, 9], []⟩,
 ⟨none, .store 1 (.t 13) (.t 22), none, [9, 7, 10, 0, 1, 2, 3, 4, 5, 6, 7, 9, 10], []⟩,
 ⟨some 14, .mov (.t 23), none, [8, 11, 0, 1, 2, 3, 4, 5, 6, 7, 8, 9, 10, 11], []⟩])
(.seq (.block 0
 (.seq (.reg [⟨some 25, .mov (.t 14), none, [], []⟩,
 ⟨some 26, .bin .eql (.t 25) (.c (.int .i64 5)), none, [0], []⟩,
 ⟨some 24, .mov (.t 26), none, [1], []⟩])
 (.cond (.t 24)
 (.seq (.reg [⟨some 27, .mov (.t 14), none, [], []⟩,
 ⟨some 10, .mov (.c (.sl [] .full)), none, [], []⟩,
 ⟨some 11, .mov (.t 27), none, [0, 1, 0, 1], []⟩])
 (.ret))
 (.seq (.reg [⟨some 29, .mov (.t 4), none, [], []⟩,
 ⟨some 30, .bin .lss (.t 29) (.c (.int .i64 1)), none, [0], []⟩,
 ⟨some 31, .mov (.t 30), none, [1], []⟩,
 ⟨some 32, .mov (.t 4), some (31, false), [2], []⟩,
 ⟨some 33, .bin .gtr (.t 32) (.c (.int .i64 64)), some (31, false), [3, 2], []⟩,
 ⟨some 34, .pick (.t 31) (.c (.bool true)) (.t 33), none, [2, 4], []⟩,
 ⟨some 28, .mov (.t 34), none, [5, 2], []⟩])
 (.cond (.t 28)
 (.seq (.reg [⟨some 10, .mov (.c (.sl [] .full)), none, [], []⟩,
 ⟨some 11, .mov (.c (.int .i64 2)), none, [0, 0], []⟩])
 (.ret))
 (.seq (.reg [⟨some 36, .mov (.t 14), none, [], []⟩,
 ⟨some 37, .bin .neq (.t 36) (.c (.int .i64 0)), none, [0], []⟩,
 ⟨some 35, .mov (.t 37), none, [1], []⟩])
 (.cond (.t 35)
 (.seq (.reg [⟨some 38, .mov (.t 14), none, [], []⟩,
 ⟨some 10, .mov (.c (.sl [] .full)), none, [], []⟩,
 ⟨some 11, .mov (.t 38), none, [0, 1, 0, 1], []⟩])
 (.ret))
 (.skip))))))))
(.seq (.reg [⟨some 39, .mov (.t 12), none, [], []⟩,
 ⟨some 40, .mkf 39 [] [(.t 13)], none, [], []⟩,
 ⟨some 41, .call 38 [(.t 39), (.t 40)], none, [0, 1], []⟩])
(.seq (.reg [⟨some 42, .mov (.t 12), none, [], []⟩,
 ⟨some 43, .mov (.t 4), none, [], []⟩,
 ⟨some 44, .mov (.t 12), none, [], []⟩,
 ⟨some 45, .len (.t 44), none, [2], []⟩,
 ⟨some 46, .mnx true (.t 43) [(.t 45)], none, [1, 3], []⟩,
 ⟨some 47, .mov (.t 4), none, [], []⟩,
 ⟨some 48, .mov (.t 12), none, [], []⟩,
 ⟨some 49, .len (.t 48), none, [6], []⟩,
 ⟨some 50, .mnx true (.t 47) [(.t 49)], none, [5, 7], []⟩,
 ⟨some 51, .slc 1 (.t 42) none (some (.t 46)) (some (.t 50)), none, [0, 4, 8], []⟩,
 ⟨some 10, .mov (.t 51), none, [9, 0, 1, 2, 3, 4, 5, 6, 7, 8, 9], []⟩,
 ⟨some 11, .mov (.c (.int .i64 0)), none, [10, 0, 1, 2, 3, 4, 5, 6, 7, 8, 9, 10], []⟩])
(.ret))))),
[.t 10, .t 11], 52⟩
theorem v_cost_Best_ok : compF Try.prog 22 = some v_cost_Best := by kernel_rfl
def v_cost_Cheapest : VFn := ⟨.seq (.reg [⟨some 6, .box (.t 2), none, [], []⟩,
 ⟨some 8, .mov (.c (.int .i64 0)), none, [], []⟩,
 ⟨some 9, .mov (.c (.int .i64 0)), none, [1], []⟩,
 ⟨some 10, .mov (.c (.int .i64 0)), none, [2], []⟩])
(.seq (.reg [⟨some 14, .mov (.t 0), none, [], []⟩,
 ⟨some 15, .mov (.t 1), none, [], []⟩,
 ⟨some 16, .load 2 true (.t 6), none, [], []⟩,
 ⟨some 17, .mov (.t 3), none, [], []⟩,
 ⟨some 18, .call 37 [(.t 14), (.t 15), (.t 16), (.t 17)], none, [0, 1, 2, 3], []⟩,
 ⟨some 13, .mov (.t 18), none, [4], []⟩,
 ⟨some 19, .ext (.t 13) 0, none, [5], []⟩,
 ⟨some 20, .ext (.t 13) 1, none, [5], []⟩,
 ⟨some 21, .ext (.t 13) 2, none, [5], []⟩,
 ⟨some 12, .alloc [.nilf], none, [], []⟩,
 ⟨some 11, .mov (.t 19), none, [6, 4, 0, 1, 2, 3, 4, 5, 6, 9], []⟩,
 ⟨none, .store 1 (.t 12) (.t 20), none, [9, 7, 10, 0, 1, 2, 3, 4, 5, 6, 7, 9, 10], []⟩,
 ⟨some 10, .mov (.t 21), none, [8, 11, 0, 1, 2, 3, 4, 5, 6, 7, 8, 9, 10, 11], []⟩])
(.seq (.seq (.reg [⟨some 22, .mov (.t 10), none, [], []⟩,
 ⟨some 23, .bin .neq (.t 22) (.c (.int .i64 0)), none, [0], []⟩])
(.cond (.t 23)
 (.seq (.reg [⟨some 24, .mov (.t 10), none, [], []⟩,
 ⟨some 8, .mov (.c (.int .i64 0)), none, [], []⟩,
 ⟨some 9, .mov (.c (.int .i64 0)), none, [1, 1], []⟩,
 ⟨some 10, .mov (.t 24), none, [0, 2, 0, 1, 2], []⟩])
 (.ret))
 (.skip)))
(.seq (.reg [⟨some 25, .mov (.t 11), none, [], []⟩,
 ⟨some 26, .mkf 45 [] [(.t 12)], none, [], []⟩,
 ⟨some 27, .call 44 [(.t 25), (.t 26)], none, [0, 1], []⟩,
 ⟨some 8, .mov (.t 27), none, [2, 2, 0, 1, 2], []⟩])
(.seq (.reg [⟨some 28, .mov (.t 8), none, [], []⟩,
 ⟨some 29, .load 1 false (.t 12), none, [], []⟩,
 ⟨some 30, .mov (.t 8), none, [], []⟩,
 ⟨some 31, .callv (.t 29) [(.t 30)], none, [1, 2], []⟩,
 ⟨some 8, .mov (.t 28), none, [0, 3, 0, 2], []⟩,
 ⟨some 9, .mov (.t 31), none, [3, 4, 0, 1, 2, 3, 4], []⟩,
 ⟨some 10, .mov (.c (.int .i64 0)), none, [5, 0, 1, 2, 3, 4, 5], []⟩])
(.ret))))),
[.t 8, .t 9, .t 10], 32⟩
theorem v_cost_Cheapest_ok : compF Try.prog 24 = some v_cost_Cheapest := by kernel_rfl
def v_cost_Cost : VFn := ⟨.seq (.reg [⟨some 6, .mov (.c (.int .i64 0)), none, [], []⟩,
 ⟨some 7, .mov (.c (.int .i64 0)), none, [0], []⟩])
(.seq (.seq (.reg [⟨some 10, .mov (.t 0), none, [], []⟩,
 ⟨some 11, .call 46 [(.t 10)], none, [0], []⟩,
 ⟨some 12, .un .not (.t 11), none, [1], []⟩])
(.cond (.t 12)
 (.seq (.reg [⟨some 6, .mov (.c (.int .i64 0)), none, [], []⟩,
 ⟨some 7, .mov (.c (.int .i64 5)), none, [0, 0], []⟩])
 (.ret))
 (.skip)))
(.seq (.reg [⟨some 14, .mov (.t 2), none, [], []⟩,
 ⟨some 15, .call 47 [(.t 14)], none, [0], []⟩,
 ⟨some 13, .mov (.t 15), none, [1], []⟩,
 ⟨some 16, .ext (.t 13) 0, none, [2], []⟩,
 ⟨some 17, .ext (.t 13) 1, none, [2], []⟩,
 ⟨some 8, .mov (.t 16), none, [3, 1, 0, 1, 2, 3], []⟩,
 ⟨some 9, .mov (.t 17), none, [4, 5, 0, 1, 2, 3, 4, 5], []⟩])
(.seq (.block 0
 (.seq (.reg [⟨some 19, .mov (.t 9), none, [], []⟩,
 ⟨some 20, .bin .neq (.t 19) (.c (.int .i64 0)), none, [0], []⟩,
 ⟨some 18, .mov (.t 20), none, [1], []⟩])
 (.cond (.t 18)
 (.seq (.reg [⟨some 21, .mov (.t 9), none, [], []⟩,
 ⟨some 6, .mov (.c (.int .i64 0)), none, [], []⟩,
 ⟨some 7, .mov (.t 21), none, [0, 1, 0, 1], []⟩])
 (.ret))
 (.seq (.reg [⟨some 23, .mov (.t 1), none, [], []⟩,
 ⟨some 24, .call 48 [(.t 23)], none, [0], []⟩,
 ⟨some 25, .mov (.t 24), none, [1, 1], []⟩,
 ⟨some 26, .mov (.t 0), some (25, false), [2], []⟩,
 ⟨some 27, .call 49 [(.t 26)], some (25, false), [3, 2, 2], []⟩,
 ⟨some 28, .pick (.t 25) (.c (.bool true)) (.t 27), none, [2, 4], []⟩,
 ⟨some 22, .mov (.t 28), none, [5, 4], []⟩])
 (.cond (.t 22)
 (.seq (.reg [⟨some 6, .mov (.c (.int .i64 0)), none, [], []⟩,
 ⟨some 7, .mov (.c (.int .i64 10)), none, [0, 0], []⟩])
 (.ret))
 (.skip))))))
(.seq (.reg [⟨some 29, .mov (.t 0), none, [], []⟩,
 ⟨some 30, .mkm, none, [], []⟩,
 ⟨some 31, .build [(.sl [] .full), .nilm] [(0, 1, (.t 29)), (1, 1, (.t 30))], none, [0, 1], []⟩,
 ⟨some 32, .mov (.t 1), none, [], []⟩,
 ⟨some 33, .mov (.t 8), none, [], []⟩,
 ⟨some 34, .call 50 [(.t 31), (.t 32), (.t 33)], none, [2, 3, 4], []⟩,
 ⟨some 6, .mov (.t 34), none, [5, 5, 0, 1, 2, 3, 4, 5], []⟩,
 ⟨some 7, .mov (.c (.int .i64 0)), none, [6, 0, 1, 2, 3, 4, 5, 6], []⟩])
(.ret))))),
[.t 6, .t 7], 35⟩
theorem v_cost_Cost_ok : compF Try.prog 25 = some v_cost_Cost := by kernel_rfl
def v_cost_begins : VFn := ⟨.seq (.reg [⟨some 6, .box (.t 2), none, [], []⟩,
 ⟨some 8, .mov (.c (.sl [] .full)), none, [], []⟩,
 ⟨some 9, .mov (.c .nilf), none, [1], []⟩,
 ⟨some 10, .mov (.c (.int .i64 0)), none, [2], []⟩])
(.seq (.seq (.reg [⟨some 16, .mov (.t 0), none, [], []⟩,
 ⟨some 17, .call 46 [(.t 16)], none, [0], []⟩,
 ⟨some 18, .un .not (.t 17), none, [1], []⟩])
(.cond (.t 18)
 (.seq (.reg [⟨some 8, .mov (.c (.sl [] .full)), none, [], []⟩,
 ⟨some 9, .mov (.c .nilf), none, [0, 0], []⟩,
 ⟨some 10, .mov (.c (.int .i64 5)), none, [1, 0, 1], []⟩])
 (.ret))
 (.skip)))
(.seq (.reg [⟨some 20, .mov (.t 1), none, [], []⟩,
 ⟨some 21, .load 2 true (.t 6), none, [], []⟩,
 ⟨some 22, .mov (.t 3), none, [], []⟩,
 ⟨some 23, .call 23 [(.t 20), (.t 21), (.t 22)], none, [0, 1, 2], []⟩,
 ⟨some 19, .mov (.t 23), none, [3], []⟩,
 ⟨some 24, .ext (.t 19) 0, none, [4], []⟩,
 ⟨some 25, .ext (.t 19) 1, none, [4], []⟩,
 ⟨some 11, .mov (.t 24), none, [5, 3, 0, 1, 2, 3, 4, 5], []⟩,
 ⟨some 12, .mov (.t 25), none, [6, 7, 0, 1, 2, 3, 4, 5, 6, 7], []⟩])
(.seq (.block 0
 (.seq (.reg [⟨some 27, .mov (.t 12), none, [], []⟩,
 ⟨some 28, .bin .neq (.t 27) (.c (.int .i64 0)), none, [0], []⟩,
 ⟨some 26, .mov (.t 28), none, [1], []⟩])
 (.cond (.t 26)
 (.seq (.reg [⟨some 29, .mov (.t 12), none, [], []⟩,
 ⟨some 8, .mov (.c (.sl [] .full)), none, [], []⟩,
 ⟨some 9, .mov (.c .nilf), none, [1, 1], []⟩,
 ⟨some 10, .mov (.t 29), none, [0, 2, 0, 1, 2], []⟩])
 (.ret))
 (.seq (.reg [⟨some 31, .mov (.t 0), none, [], []⟩,
 ⟨some 32, .call 49 [(.t 31)], none, [0], []⟩,
 ⟨some 30, .mov (.t 32), none, [1, 1], []⟩])
 (.cond (.t 30)
 (.seq (.reg [⟨some 8, .mov (.c (.sl [] .full)), none, [], []⟩,
 ⟨some 9, .mov (.c .nilf), none, [0, 0], []⟩,
 ⟨some 10, .mov (.c (.int .i64 10)), none, [1, 0, 1], []⟩])
 (.ret))
 (.seq (.reg [⟨some 34, .mov (.t 11), none, [], []⟩,
 ⟨some 35, .len (.t 34), none, [0], []⟩,
 ⟨some 36, .bin .eql (.t 35) (.c (.int .i64 0)), none, [1], []⟩,
 ⟨some 33, .mov (.t 36), none, [2], []⟩])
 (.cond (.t 33)
 (.seq (.reg [⟨some 8, .mov (.c (.sl [] .full)), none, [], []⟩,
 ⟨some 9, .mov (.c .nilf), none, [0, 0], []⟩,
 ⟨some 10, .mov (.c (.int .i64 210)), none, [1, 0, 1], []⟩])
 (.ret))
 (.skip))))))))
(.seq (.reg [⟨some 38, .mov (.t 3), none, [], []⟩,
 ⟨some 39, .call 47 [(.t 38)], none, [0], []⟩,
 ⟨some 37, .mov (.t 39), none, [1], []⟩,
 ⟨some 40, .ext (.t 37) 0, none, [2], []⟩,
 ⟨some 41, .ext (.t 37) 1, none, [2], []⟩,
 ⟨some 13, .alloc [(.int .i64 0)], none, [], []⟩,
 ⟨none, .store 1 (.t 13) (.t 40), none, [5, 3, 1, 0, 1, 2, 3, 5], []⟩,
 ⟨some 14, .mov (.t 41), none, [4, 6, 0, 1, 2, 3, 4, 5, 6], []⟩])
(.seq (.reg [⟨some 42, .mov (.t 0), none, [], []⟩,
 ⟨some 43, .mkm, none, [], []⟩,
 ⟨some 44, .build [(.sl [] .full), .nilm] [(0, 1, (.t 42)), (1, 1, (.t 43))], none, [0, 1], []⟩,
 ⟨some 15, .alloc [(.sl [] .full), .nilm], none, [], []⟩,
 ⟨none, .store 2 (.t 15) (.t 44), none, [3, 2, 0, 1, 2, 3], []⟩])
(.seq (.reg [⟨some 45, .mov (.t 11), none, [], []⟩,
 ⟨some 46, .call 66 [(.t 45)], none, [0], []⟩,
 ⟨some 47, .call 65 [(.t 46)], none, [1, 1], []⟩,
 ⟨some 48, .mkf 67 [] [(.t 15), (.t 13)], none, [], []⟩,
 ⟨some 8, .mov (.t 47), none, [2, 2, 0, 1, 2], []⟩,
 ⟨some 9, .mov (.t 48), none, [3, 4, 0, 1, 2, 3, 4], []⟩,
 ⟨some 10, .mov (.c (.int .i64 0)), none, [5, 0, 1, 2, 3, 4, 5], []⟩])
(.ret))))))),
[.t 8, .t 9, .t 10], 49⟩
theorem v_cost_begins_ok : compF Try.prog 37 = some v_cost_begins := by kernel_rfl
def v_cost_Best_1 : VFn := ⟨.seq (.reg [⟨some 5, .mov (.c (.int .i64 0)), none, [], []⟩])
(.seq (.dreg [⟨some 6, .load 1 false (.t 2), none, [], []⟩,
 ⟨some 7, .mov (.t 0), none, [], []⟩,
 ⟨some 8, .callv (.t 6) [(.t 7)], none, [0, 1], []⟩,
 ⟨some 9, .load 1 false (.t 2), none, [], []⟩,
 ⟨some 10, .mov (.t 1), none, [], []⟩,
 ⟨some 11, .callv (.t 9) [(.t 10)], none, [3, 4, 2], [(0, 0)]⟩,
 ⟨some 12, .call 40 [(.t 8), (.t 11)], none, [2, 5, 5], [(0, 0)]⟩,
 ⟨some 5, .mov (.t 12), none, [6, 6, 0, 1, 2, 3, 4, 5, 6], []⟩])
(.ret)),
[.t 5], 13⟩
theorem v_cost_Best_1_ok : compF Try.prog 39 = some v_cost_Best_1 := by kernel_rfl
def v_cost_Cheapest_1 : VFn := ⟨.seq (.reg [⟨some 5, .mov (.c (.int .i64 0)), none, [], []⟩])
(.seq (.dreg [⟨some 6, .load 1 false (.t 2), none, [], []⟩,
 ⟨some 7, .mov (.t 0), none, [], []⟩,
 ⟨some 8, .callv (.t 6) [(.t 7)], none, [0, 1], []⟩,
 ⟨some 9, .load 1 false (.t 2), none, [], []⟩,
 ⟨some 10, .mov (.t 1), none, [], []⟩,
 ⟨some 11, .callv (.t 9) [(.t 10)], none, [3, 4, 2], [(0, 0)]⟩,
 ⟨some 12, .call 40 [(.t 8), (.t 11)], none, [2, 5, 5], [(0, 0)]⟩,
 ⟨some 5, .mov (.t 12), none, [6, 6, 0, 1, 2, 3, 4, 5, 6], []⟩])
(.ret)),
[.t 5], 13⟩
theorem v_cost_Cheapest_1_ok : compF Try.prog 45 = some v_cost_Cheapest_1 := by kernel_rfl
def v_cost_far : VFn := ⟨.seq (.reg [⟨some 2, .mov (.c (.bool false)), none, [], []⟩])
(.seq (.reg [⟨some 3, .mov (.t 0), none, [], []⟩,
 ⟨some 4, .bin .lss (.t 3) (.c (.int .i64 (-1099511627776))), none, [0], []⟩,
 ⟨some 5, .mov (.t 4), none, [1], []⟩,
 ⟨some 6, .mov (.t 0), some (5, false), [2], []⟩,
 ⟨some 7, .bin .gtr (.t 6) (.c (.int .i64 1099511627776)), some (5, false), [3, 2], []⟩,
 ⟨some 8, .pick (.t 5) (.c (.bool true)) (.t 7), none, [2, 4], []⟩,
 ⟨some 2, .mov (.t 8), none, [5, 2, 0, 1, 2, 3, 4, 5], []⟩])
(.ret)),
[.t 2], 9⟩
theorem v_cost_far_ok : compF Try.prog 48 = some v_cost_far := by kernel_rfl
def v_cost_much : VFn := ⟨.seq (.reg [⟨some 2, .mov (.c (.bool false)), none, [], []⟩])
(.seq (.reg [⟨some 3, .mov (.t 0), none, [], []⟩,
 ⟨some 4, .call 77 [(.t 3), (.c (.clo 80 [] []))], none, [0], []⟩,
 ⟨some 2, .mov (.t 4), none, [1, 1, 0, 1], []⟩])
(.ret)),
[.t 2], 5⟩
theorem v_cost_much_ok : compF Try.prog 49 = some v_cost_much := by kernel_rfl
def v_cost_price_at : VFn := ⟨.seq (.reg [⟨some 3, .box (.t 0), none, [], []⟩,
 ⟨some 6, .mov (.c (.int .i64 0)), none, [], []⟩])
(.seq (.seq (.reg [⟨some 15, .fad 1 (.t 3), none, [], []⟩,
 ⟨some 16, .load 1 false (.t 15), none, [0], []⟩,
 ⟨some 17, .mov (.t 1), none, [], []⟩,
 ⟨some 18, .mlk false (.int .i64 0) true (.t 16) (.t 17), none, [1, 2], []⟩,
 ⟨some 14, .mov (.t 18), none, [3], []⟩,
 ⟨some 19, .ext (.t 14) 0, none, [4], []⟩,
 ⟨some 20, .ext (.t 14) 1, none, [4], []⟩,
 ⟨some 7, .mov (.t 19), none, [5, 0, 1, 2, 3, 4, 5], []⟩,
 ⟨some 8, .mov (.t 20), none, [6, 7, 0, 1, 2, 3, 4, 5, 6, 7], []⟩])
(.seq (.reg [⟨some 21, .mov (.t 8), none, [], []⟩])
(.cond (.t 21)
 (.seq (.reg [⟨some 22, .mov (.t 7), none, [], []⟩,
 ⟨some 6, .mov (.t 22), none, [0, 0], []⟩])
 (.ret))
 (.skip))))
(.seq (.reg [⟨some 9, .mov (.c (.int .i64 0)), none, [], []⟩])
(.seq (.seq (.reg [⟨some 23, .mov (.t 1), none, [], []⟩,
 ⟨some 24, .mov (.t 1), none, [], []⟩,
 ⟨some 25, .mov (.t 2), none, [], []⟩,
 ⟨some 26, .bin .add (.t 24) (.t 25), none, [1, 2], []⟩,
 ⟨some 10, .mov (.t 23), none, [0, 0], []⟩,
 ⟨some 11, .mov (.t 26), none, [3, 4, 0, 1, 2, 3, 4], []⟩])
(.block 0
 (.loop
 (.seq (.seq (.reg [⟨some 27, .mov (.t 10), none, [], []⟩,
 ⟨some 28, .mov (.t 11), none, [], []⟩,
 ⟨some 29, .bin .lss (.t 27) (.t 28), none, [0, 1], []⟩])
 (.cond (.t 29)
 (.skip)
 (.exit 0)))
 (.seq (.block 1
 (.seq (.reg [⟨some 33, .fad 0 (.t 3), none, [], []⟩,
 ⟨some 34, .load 1 false (.t 33), none, [0], []⟩,
 ⟨some 35, .mov (.t 10), none, [], []⟩,
 ⟨some 36, .mov (.t 11), none, [], []⟩,
 ⟨some 37, .mov (.t 10), none, [], []⟩,
 ⟨some 38, .bin .add (.t 37) (.c (.int .i64 4096)), none, [4], []⟩,
 ⟨some 39, .mnx true (.t 36) [(.t 38)], none, [3, 5], []⟩,
 ⟨some 40, .call 81 [(.t 34), (.t 35), (.t 39)], none, [1, 2, 6], []⟩,
 ⟨some 32, .mov (.t 40), none, [7], []⟩,
 ⟨some 41, .ext (.t 32) 0, none, [8], []⟩,
 ⟨some 42, .ext (.t 32) 1, none, [8], []⟩,
 ⟨some 12, .alloc [(.int .i64 0), (.int .i64 0)], none, [], []⟩,
 ⟨none, .store 2 (.t 12) (.t 41), none, [11, 9, 7, 0, 1, 2, 3, 4, 5, 6, 7, 8, 9, 11], []⟩,
 ⟨some 13, .mov (.t 42), none, [10, 12, 0, 1, 2, 3, 4, 5, 6, 7, 8, 9, 10, 11, 12], []⟩])
 (.reg [⟨some 43, .mov (.t 9), none, [], []⟩,
 ⟨some 44, .fad 0 (.t 12), none, [], []⟩,
 ⟨some 45, .load 1 false (.t 44), none, [1], []⟩,
 ⟨some 46, .fad 1 (.t 12), none, [], []⟩,
 ⟨some 47, .load 1 false (.t 46), none, [3], []⟩,
 ⟨some 48, .bin .add (.t 45) (.t 47), none, [2, 4], []⟩,
 ⟨some 49, .bin .add (.t 43) (.t 48), none, [0, 5], []⟩,
 ⟨some 9, .mov (.t 49), none, [6, 0, 1, 2, 3, 4, 5, 6], []⟩])))
 (.reg [⟨some 30, .mov (.t 10), none, [], []⟩,
 ⟨some 31, .bin .add (.t 30) (.c (.int .i64 4096)), none, [0], []⟩,
 ⟨some 10, .mov (.t 31), none, [1, 0, 1], []⟩]))))))
(.seq (.reg [⟨some 50, .fad 1 (.t 3), none, [], []⟩,
 ⟨some 51, .load 1 false (.t 50), none, [0], []⟩,
 ⟨some 52, .mov (.t 1), none, [], []⟩,
 ⟨some 53, .mov (.t 9), none, [], []⟩,
 ⟨none, .mup false (.t 51) (.t 52) (.t 53), none, [1, 2, 3, 0, 1, 2, 3], []⟩])
(.seq (.reg [⟨some 54, .mov (.t 9), none, [], []⟩,
 ⟨some 6, .mov (.t 54), none, [0, 0], []⟩])
(.ret)))))),
[.t 6], 55⟩
theorem v_cost_price_at_ok : compF Try.prog 50 = some v_cost_price_at := by kernel_rfl
def v_cost_times : VFn := ⟨.seq (.reg [⟨some 1, .box (.t 0), none, [], []⟩,
 ⟨some 2, .mov (.c .nilf), none, [], []⟩])
(.seq (.reg [⟨some 3, .mkf 91 [] [(.t 1)], none, [], []⟩,
 ⟨some 2, .mov (.t 3), none, [0, 0], []⟩])
(.ret)),
[.t 2], 4⟩
theorem v_cost_times_ok : compF Try.prog 66 = some v_cost_times := by kernel_rfl
def v_cost_begins_1 : VFn := ⟨.seq (.reg [⟨some 4, .mov (.c (.int .i64 0)), none, [], []⟩])
(.seq (.reg [⟨some 5, .load 2 true (.t 1), none, [], []⟩,
 ⟨some 6, .mov (.t 0), none, [], []⟩,
 ⟨some 7, .load 1 false (.t 2), none, [], []⟩,
 ⟨some 8, .call 50 [(.t 5), (.t 6), (.t 7)], none, [0, 1, 2], []⟩,
 ⟨some 4, .mov (.t 8), none, [3, 3, 0, 1, 2, 3], []⟩])
(.ret)),
[.t 4], 9⟩
theorem v_cost_begins_1_ok : compF Try.prog 67 = some v_cost_begins_1 := by kernel_rfl
def v_cost_much_1 : VFn := ⟨.seq (.reg [⟨some 1, .box (.t 0), none, [], []⟩,
 ⟨some 2, .mov (.c (.bool false)), none, [], []⟩])
(.seq (.reg [⟨some 3, .fad 1 (.t 1), none, [], []⟩,
 ⟨some 4, .fad 0 (.t 3), none, [0], []⟩,
 ⟨some 5, .load 1 false (.t 4), none, [1], []⟩,
 ⟨some 6, .fad 1 (.t 1), none, [], []⟩,
 ⟨some 7, .fad 1 (.t 6), none, [3], []⟩,
 ⟨some 8, .load 1 false (.t 7), none, [4], []⟩,
 ⟨some 9, .mnx true (.t 5) [(.t 8)], none, [2, 5], []⟩,
 ⟨some 10, .bin .lss (.t 9) (.c (.int .i64 (-17592186044416))), none, [6], []⟩,
 ⟨some 11, .mov (.t 10), none, [7], []⟩,
 ⟨some 12, .fad 1 (.t 1), some (11, false), [8], []⟩,
 ⟨some 13, .fad 0 (.t 12), some (11, false), [9, 8], []⟩,
 ⟨some 14, .load 1 false (.t 13), some (11, false), [10, 8], []⟩,
 ⟨some 15, .fad 1 (.t 1), some (11, false), [8], []⟩,
 ⟨some 16, .fad 1 (.t 15), some (11, false), [12, 8], []⟩,
 ⟨some 17, .load 1 false (.t 16), some (11, false), [13, 8], []⟩,
 ⟨some 18, .mnx false (.t 14) [(.t 17)], some (11, false), [11, 14, 8], []⟩,
 ⟨some 19, .bin .gtr (.t 18) (.c (.int .i64 17592186044416)), some (11, false), [15, 8], []⟩,
 ⟨some 20, .pick (.t 11) (.c (.bool true)) (.t 19), none, [8, 16], []⟩,
 ⟨some 2, .mov (.t 20), none, [17, 8, 0, 1, 2, 3, 4, 5, 6, 7, 8, 9, 10, 11, 12, 13, 14, 15, 16, 17], []⟩])
(.ret)),
[.t 2], 21⟩
theorem v_cost_much_1_ok : compF Try.prog 80 = some v_cost_much_1 := by kernel_rfl
def v_cost_times_1 : VFn := ⟨.seq (.reg [⟨some 6, .load 1 false (.t 1), none, [], []⟩,
 ⟨some 7, .len (.t 6), none, [0], []⟩,
 ⟨some 8, .mov (.c (.int .i64 0)), none, [], []⟩])
(.block 0
 (.loop
 (.seq (.reg [⟨some 9, .bin .lss (.t 8) (.t 7), none, [], []⟩])
 (.seq (.cond (.t 9)
 (.skip)
 (.exit 0))
 (.seq (.block 1
 (.seq (.reg [⟨some 10, .iad 2 (.t 6) (.t 8), none, [], []⟩,
 ⟨some 11, .load 2 true (.t 10), none, [0], []⟩,
 ⟨some 4, .alloc [(.int .i64 0), (.int .i64 0)], none, [], []⟩,
 ⟨none, .store 2 (.t 4) (.t 11), none, [2, 1, 0, 1, 2], []⟩])
 (.seq (.reg [⟨some 12, .fad 0 (.t 4), none, [], []⟩,
 ⟨some 13, .load 1 false (.t 12), none, [0], []⟩,
 ⟨some 5, .mov (.t 13), none, [1, 0, 1], []⟩])
 (.block 2
 (.loop
 (.seq (.seq (.reg [⟨some 14, .mov (.t 5), none, [], []⟩,
 ⟨some 15, .fad 1 (.t 4), none, [], []⟩,
 ⟨some 16, .load 1 false (.t 15), none, [1], []⟩,
 ⟨some 17, .bin .lss (.t 14) (.t 16), none, [0, 2], []⟩])
 (.cond (.t 17)
 (.skip)
 (.exit 2)))
 (.seq (.block 3
 (.seq (.reg [⟨some 20, .mov (.t 0), none, [], []⟩,
 ⟨some 21, .mov (.t 5), none, [], []⟩,
 ⟨some 22, .callv (.t 20) [(.t 21)], none, [0, 1], []⟩,
 ⟨some 23, .un .not (.t 22), none, [2], []⟩])
 (.cond (.t 23)
 (.ret)
 (.skip))))
 (.reg [⟨some 18, .mov (.t 5), none, [], []⟩,
 ⟨some 19, .bin .add (.t 18) (.c (.int .i64 1)), none, [0], []⟩,
 ⟨some 5, .mov (.t 19), none, [1, 0, 1], []⟩]))))))))
 (.reg [⟨some 24, .bin .add (.t 8) (.c (.int .i64 1)), none, [], []⟩,
 ⟨some 8, .mov (.t 24), none, [0], []⟩])))))),
[], 25⟩
theorem v_cost_times_1_ok : compF Try.prog 91 = some v_cost_times_1 := by kernel_rfl
end Go.Proofs.Ytglekfgoadehbaa.V
end
section
set_option linter.unusedSimpArgs false
set_option linter.unusedVariables false
/- What the package cost's functions compute: far, much, at, Cost. -/
namespace Go.Proofs.Ytglekfgoadehbaa.V
open Go Go.Proofs
set_option maxRecDepth 100000
set_option maxHeartbeats 4000000
theorem farcost_v (n : Int) : VPure Try.prog 48 [.int .i64 n] (.bool (farF n)) := by
  refine VPure.of v_cost_far_ok (Nat.le_of_ble_eq_true rfl) (fun Z st => ?_)
  simp only [v_cost_far, ↓vD, vU, ↓vMd, vMu, vZ, seval, k_app, k_slc1]
  unfold farF
  (repeat' (first | (simp (maxDischargeDepth := 16) only [*, vX, ↓vD, vU, ↓vMd, vMu, vZ, seval]) | (simp (disch := first | assumption | omega | rfl | exact fun _ => rfl) only [vP]) | ((with_reducible first | apply gsnd | apply csnd | apply gsd | apply csd | apply gsn | apply csn | apply gs | apply cs_) <;> intro _)))
  (all_goals (first | rfl | (simp_all; done) | (simp_all <;> omega)))
def muchS (x : Seg) : Bool := decide (min x.v.m x.v.c < -17592186044416) || decide (17592186044416 < max x.v.m x.v.c)
theorem much1_v (x : Seg) : VPure Try.prog 80 [x.a] (.bool (muchS x)) := by
  refine VPure.of v_cost_much_1_ok (Nat.le_of_ble_eq_true rfl) (fun Z st => ?_)
  simp only [v_cost_much_1, ↓vD, vU, ↓vMd, vMu, vZ, seval, k_app, k_slc1]
  unfold muchS
  (repeat' (first | (simp (maxDischargeDepth := 16) only [*, Seg.a, vmin2, vmax2, vX, ↓vD, vU, ↓vMd, vMu, vZ, seval]) | (simp (disch := first | assumption | omega | rfl | exact fun _ => rfl) only [Seg.a, vmin2, vmax2, vP]) | ((with_reducible first | apply gsnd | apply csnd | apply gsd | apply csd | apply gsn | apply csn | apply gs | apply cs_) <;> intro _) | (with_reducible refine objQ_i (fun _ _ => ?_); repeat with_reducible refine imp_i (fun _ => ?_))))
  (all_goals (first | rfl | (simp_all; done) | (simp_all <;> omega)))
theorem much_v (f : List Seg) (hn : f.length ≤ 1000000000) (t : Tok) : VPure Try.prog 49 [.sl (f.map Seg.a) t] (.bool (f.any muchS)) := by
  have h := contains_pSeg (f := 80) (fs := []) (cs := []) f (by omega) t muchS (fun x => much1_v x)
  refine VPure.of v_cost_much_ok (Nat.le_of_ble_eq_true rfl) (fun Z st => ?_)
  simp only [v_cost_much, ↓vD, vU, ↓vMd, vMu, vZ, seval, k_app, k_slc1]
  (repeat' (first | (simp (maxDischargeDepth := 16) only [*, vX, ↓vD, vU, ↓vMd, vMu, vZ, seval]) | (simp (disch := first | assumption | omega | rfl | exact fun _ => rfl) only [vP]) | ((with_reducible first | apply gsnd | apply csnd | apply gsd | apply csd | apply gsn | apply csn | apply gs | apply cs_) <;> intro _) | (with_reducible first | refine callH_use (h) ?_ | refine pureQ_use (h) ?_)))
theorem much_small {f : List Seg} (h : f.any muchS = false) : ∀ x ∈ f, small 17592186044416 x.v := fun x hx => by
  have := List.any_eq_false.1 h x hx
  simp only [muchS, Bool.or_eq_true, decide_eq_true_eq, not_or] at this
  simp only [small]; omega
def costP (load : List Seg) (n t : Int) : Int := sumT (fun s => (atF load s).m + (atF load s).c) t n.toNat
theorem St.split {st : St} {b : Nat} {o : AObj} (h : st.objs b = some o) : ∃ S : St, st = S.ins b o ∧ S.objs b = none :=
  ⟨st.del b, by
    cases st
    simp only [St.ins, St.del, St.mk.injEq, and_true]
    funext i; split
    · rename_i e; subst e; exact h
    · rfl, by simp [St.del]⟩
theorem sum_next {load : List Seg} (hm : mayF load = true) (hs : ∀ x ∈ load, small 17592186044416 x.v) {t u z : Int} (h1 : t ≤ u) (h2 : u < z) (h3 : z - u ≤ 4096) (h4 : z - t ≤ 65536) :
    (-2305843009213693952 ≤ sumT (fun s => (atF load s).m + (atF load s).c) t (u - t).toNat ∧ sumT (fun s => (atF load s).m + (atF load s).c) t (u - t).toNat ≤ 2305843009213693952) ∧
    (-72057594037927936 ≤ (sumF_ load u z).m ∧ (sumF_ load u z).m ≤ 72057594037927936) ∧ (-72057594037927936 ≤ (sumF_ load u z).c ∧ (sumF_ load u z).c ≤ 72057594037927936) ∧
    sumT (fun s => (atF load s).m + (atF load s).c) t (u - t).toNat + ((sumF_ load u z).m + (sumF_ load u z).c) = sumT (fun s => (atF load s).m + (atF load s).c) t (z - t).toNat := by
  have hv : ∀ s, small 17592186044416 (atF load s) := fun s => atF_small (by omega) hs s
  have e := sumF_is hm (B := 17592186044416) (by omega) (by omega) hs h2 (by omega)
  have b1 := sumT_bd (fun s => (atF load s).m + (atF load s).c) 35184372088832 (u - t).toNat t (fun s _ _ => by have := hv s; simp only [small] at this; omega)
  have b2 := sumT_bd (fun s => (atF load s).m) 17592186044416 (z - u).toNat u (fun s _ _ => by have := hv s; simp only [small] at this; omega)
  have b3 := sumT_bd (fun s => (atF load s).c) 17592186044416 (z - u).toNat u (fun s _ _ => by have := hv s; simp only [small] at this; omega)
  rw [e]
  refine ⟨by omega, by simp only; omega, by simp only; omega, ?_⟩
  have hz : (z - t).toNat = (u - t).toNat + (z - u).toNat := by omega
  rw [hz, sumT_add, show t + ((u - t).toNat : Int) = u by omega, sumT_split (fun s => (atF load s).m) (fun s => (atF load s).c) (z - u).toNat u]
theorem price_at_c {Z : Im} {st : St} (load : List Seg) (hl : load.length ≤ 1000000) (hm : mayF load = true) (hs : ∀ x ∈ load, small 17592186044416 x.v) (n : Int) (hn : 0 ≤ n ∧ n ≤ 65536) (t : Int) (ht : -2199023255552 ≤ t ∧ t ≤ 2199023255552) (tk : Tok) {bm : Nat} (hb : st.objs bm = some (memo (Value.int .i64) .i64 (costP load n))) :
    VCalls Try.prog Z 50 [.agg [.sl (load.map Seg.a) tk, .mp bm], num t, num n] st (fun r s => r = num (costP load n t) ∧ s = st) := by
  obtain ⟨S, rfl, hS⟩ := St.split hb
  clear hb
  obtain ⟨hn1, hn2⟩ := hn
  obtain ⟨ht1, ht2⟩ := ht
  obtain ⟨h, hh⟩ : ∃ h : Int → Int, (fun s => (atF load s).m + (atF load s).c) = h := ⟨_, rfl⟩
  have HG : Hid (costP load n t = sumT h t n.toNat) := ⟨by unfold costP; rw [hh]⟩
  have HN : Hid (∀ u z, t ≤ u → u < z → z - u ≤ 4096 → z - t ≤ 65536 → (-2305843009213693952 ≤ sumT h t (u - t).toNat ∧ sumT h t (u - t).toNat ≤ 2305843009213693952) ∧
    (-72057594037927936 ≤ (sumF_ load u z).m ∧ (sumF_ load u z).m ≤ 72057594037927936) ∧ (-72057594037927936 ≤ (sumF_ load u z).c ∧ (sumF_ load u z).c ≤ 72057594037927936) ∧ sumT h t (u - t).toNat + ((sumF_ load u z).m + (sumF_ load u z).c) = sumT h t (z - t).toNat) := ⟨fun u z a b c d => by rw [← hh]; exact sum_next hm hs a b c d⟩
  have HM := Hid.mk hm
  obtain ⟨g, hg⟩ : ∃ g : Int → Int, costP load n = g := ⟨_, rfl⟩
  rw [hg] at HG ⊢
  clear hh hs hm hg
  refine VCalls.of v_cost_price_at_ok (Nat.le_of_ble_eq_true rfl) ?_
  simp only [v_cost_price_at, ↓vD, vU, ↓vMd, vMu, vZ, seval, k_app, k_slc1]
  (repeat' (first | (simp (maxDischargeDepth := 16) only [*, num, vX, ↓vD, vU, ↓vMd, vMu, vZ, seval]) | (simp (disch := first | assumption | omega | rfl | exact fun _ => rfl) only [num, vP]) | ((with_reducible first | apply gsnd | apply csnd | apply gsd | apply csd | apply gsn | apply csn | apply gs | apply cs_) <;> intro _) | (with_reducible refine objQ_i (fun _ _ => ?_); repeat with_reducible refine imp_i (fun _ => ?_))))
  rename_i b3 h3 n1 n2
  have HO : Hid (∀ p z, t ≤ p → p < z → z - p ≤ 4096 → p ≤ t + 65536 → overE load p z = 0) := ⟨fun p z a b c d => by
    unfold overE; rw [HM.out, if_pos rfl, if_pos (by omega)]⟩
  refine loopq_of (by simp only [asgL, dsts, List.cons_append, List.nil_append, List.append_nil]; rfl) (by simp only [noR, Bool.and_true, Bool.and_false]; rfl) (fun r fr => ∃ (p q : Int), fr.t 10 = .int .i64 p ∧ fr.t 9 = .int .i64 (sumT h t (q - t).toNat) ∧ t ≤ q ∧ q ≤ p ∧ q ≤ t + n ∧ (p < t + n → q = p) ∧ (t + n ≤ p → q = t + n) ∧ p ≤ t + 70000 ∧ r = (t + n - p).toNat) ?_ ?_
  · exact ⟨_, t, t, by simp [↓vD, vU, ↓vMd, vMu, vZ, seval, k_app, k_slc1], by simp [↓vD, vU, ↓vMd, vMu, vZ, seval, k_app, k_slc1, sumT], by omega, by omega, by omega, by omega, by omega, by omega, rfl⟩
  · rintro r fr hfr hd ⟨p, q, h10, h9, q1, q2, q3, q4, q5, q6, hr⟩
    have HR := Hid.mk hr
    clear hr
    by_cases hp : p < t + n
    · obtain rfl := q4 hp
      obtain ⟨z, hz⟩ : ∃ z, min (t + n) (q + 4096) = z := ⟨_, rfl⟩
      have z1 : q < z := by omega
      have z2 : z - q ≤ 4096 := by omega
      have z3 : z ≤ t + n := by omega
      have z4 : q + 4096 < t + n → z = q + 4096 := by omega
      have z5 : t + n ≤ q + 4096 → z = t + n := by omega
      have hc := Sum_c load hl q z tk
      rw [HO.out q z q1 z1 z2 (by omega), if_pos rfl] at hc
      obtain ⟨⟨w1, w2⟩, ⟨w3, w4⟩, ⟨w5, w6⟩, w7⟩ := HN.out q z q1 z1 z2 (by omega)
      obtain ⟨v, hv⟩ : ∃ v, sumF_ load q z = v := ⟨_, rfl⟩
      obtain ⟨s1, hs1⟩ : ∃ s, sumT h t (q - t).toNat = s := ⟨_, rfl⟩
      rw [hv] at hc w3 w4 w5 w6 w7
      rw [hs1] at w1 w2 w7 h9
      have HW := Hid.mk w7
      clear w7 hv hs1 HN HO q4 q5
      simp only [num, Vec.a] at hc
      (repeat' (first | (simp (maxDischargeDepth := 16) only [*, vX, ↓vD, vU, ↓vMd, vMu, vZ, seval]) | (simp (disch := first | assumption | omega | rfl | exact fun _ => rfl) only [vP]) | ((with_reducible first | apply gsnd | apply csnd | apply gsd | apply csd | apply gsn | apply csn | apply gs | apply cs_) <;> intro _) | (with_reducible refine objQ_i (fun _ _ => ?_); repeat with_reducible refine imp_i (fun _ => ?_)) | (with_reducible first | refine callH_use (hc) ?_ | refine pureQ_use (hc) ?_)))
      refine ⟨(t + n - (q + 4096)).toNat, by have := HR.out; omega, q + 4096, z, rfl, HW.out, by omega, by omega, by omega, by omega, by omega, by omega, rfl⟩
    · have hq := q5 (by omega)
      subst hq
      have HG2 : Hid (sumT h t (t + n - t).toNat = g t) := ⟨by rw [HG.out, show (t + n - t) = n by omega]⟩
      rw [HG2.out] at h9
      clear HG HG2 HN HO q4 q5 q3 q1 q2
      (repeat' (first | (simp (maxDischargeDepth := 16) only [*, vX, ↓vD, vU, ↓vMd, vMu, vZ, seval]) | (simp (disch := first | assumption | omega | rfl | exact fun _ => rfl) only [vP]) | ((with_reducible first | apply gsnd | apply csnd | apply gsd | apply csd | apply gsn | apply csn | apply gs | apply cs_) <;> intro _) | (with_reducible refine objQ_i (fun _ _ => ?_); repeat with_reducible refine imp_i (fun _ => ?_))))
def costE (load : List Seg) (t : Int) (l : List Leg) : Int × Int :=
  if mayF load then (if (lengthF l).2 ≠ 0 then (0, (lengthF l).2) else if farF t || load.any muchS then (0, 10) else (costP load (lengthF l).1 t, 0)) else (0, 5)
theorem length_bd {l : List Leg} (h : (lengthF l).2 = 0) : 0 ≤ (lengthF l).1 ∧ (lengthF l).1 ≤ 65536 := by
  unfold lengthF at h ⊢
  split at h
  · simp at h
  · rename_i hc
    rw [if_neg hc]
    simp only [Bool.or_eq_true, decide_eq_true_eq, not_or, Bool.not_eq_true] at hc
    obtain ⟨⟨h1, h2⟩, h3⟩ := hc
    have hb : ∀ x ∈ l, 0 ≤ x.d ∧ x.d ≤ 4096 := fun x hx => by
      have := List.any_eq_false.1 h1 x hx
      simp only [badD, Bool.or_eq_true, decide_eq_true_eq, not_or] at this
      omega
    have : ∀ m : List Leg, (∀ x ∈ m, 0 ≤ x.d ∧ x.d ≤ 4096) → 0 ≤ sumD m ∧ sumD m ≤ 4096 * m.length := by
      intro m
      induction m with
      | nil => intro _; simp [sumD]
      | cons y r ih =>
        intro h
        have h4 := ih fun x hx => h x (by simp [hx])
        have h5 := h y (by simp)
        simp only [sumD, List.length_cons]; omega
    have := this l hb
    simp only; omega
theorem Cost_c {Z : Im} {st : St} (load : List Seg) (hl : load.length ≤ 1000000) (t : Int) (l : List Leg) (hn : l.length ≤ 1000000000) (tk tk' : Tok) :
    VCalls Try.prog Z 25 [.sl (load.map Seg.a) tk, num t, .sl (l.map Leg.a) tk'] st (fun r s => r = .tup [num (costE load t l).1, num (costE load t l).2] ∧ s = st) := by
  have hm := May_F load (by omega) tk
  have hL := Length_v l hn tk'
  have hf := farcost_v t
  have hu := much_v load (by omega) tk
  have hbd := Hid.mk (@length_bd l)
  unfold costE
  obtain ⟨n, e'⟩ : ∃ n, (lengthF l).1 = n := ⟨_, rfl⟩
  obtain ⟨e, e''⟩ : ∃ e, (lengthF l).2 = e := ⟨_, rfl⟩
  rw [e', e''] at hbd hL ⊢
  clear e' e''
  have HP : Hid (mayF load = true → farF t = false → load.any muchS = false → e = 0 → ∀ b, (st.ins b (mo (Value.int .i64) .i64 [])).objs b = some (mo (Value.int .i64) .i64 ([] : List (Int × Int))) →
    VCalls Try.prog Z 50 [.agg [.sl (load.map Seg.a) tk, .mp b], num t, num n] (st.ins b (mo (Value.int .i64) .i64 [])) (fun r s => r = num (costP load n t) ∧ s = (st.ins b (mo (Value.int .i64) .i64 [])).ins b (memo (Value.int .i64) .i64 (costP load n)))) := ⟨fun a1 a2 a3 a4 b hb => by
      have hfar : -1099511627776 ≤ t ∧ t ≤ 1099511627776 := by
        simp only [farF, Bool.or_eq_false_iff, decide_eq_false_iff_not] at a2; omega
      have hb2 := hbd.out a4
      exact VCalls.pre (Wk.toMemo (Value.int .i64) .i64 (costP load n) _ hb _) (price_at_c load hl a1 (much_small a3) n hb2 t (by omega) tk (by simp [St.ins]))⟩
  obtain ⟨m, hm'⟩ : ∃ m, mayF load = m := ⟨_, rfl⟩
  obtain ⟨f, hf'⟩ : ∃ f, farF t = f := ⟨_, rfl⟩
  obtain ⟨u, hu'⟩ : ∃ u, load.any muchS = u := ⟨_, rfl⟩
  obtain ⟨c, hc'⟩ : ∃ c, costP load n t = c := ⟨_, rfl⟩
  rw [hm', hf', hu', hc'] at HP
  rw [hm'] at hm ⊢
  rw [hf'] at hf ⊢
  rw [hu'] at hu ⊢
  rw [hc']
  clear hm' hf' hu' hc' hbd
  simp only [num] at hL
  refine VCalls.of v_cost_Cost_ok (Nat.le_of_ble_eq_true rfl) ?_
  simp only [v_cost_Cost, ↓vD, vU, ↓vMd, vMu, vZ, seval, k_app, k_slc1]
  by_cases h0 : e = 0
  · subst h0
    cases m
    · (repeat' (first | (simp (maxDischargeDepth := 16) only [*, num, vX, ↓vD, vU, ↓vMd, vMu, vZ, seval]) | (simp (disch := first | assumption | omega | rfl | exact fun _ => rfl) only [num, vP]) | ((with_reducible first | apply gsnd | apply csnd | apply gsd | apply csd | apply gsn | apply csn | apply gs | apply cs_) <;> intro _) | (with_reducible refine objQ_i (fun _ _ => ?_); repeat with_reducible refine imp_i (fun _ => ?_)) | (with_reducible first | refine callH_use (hm) ?_ | refine pureQ_use (hm) ?_)))
    cases f
    · cases u
      · (repeat' (first | (simp (maxDischargeDepth := 16) only [*, num, vX, ↓vD, vU, ↓vMd, vMu, vZ, seval]) | (simp (disch := first | assumption | omega | rfl | exact fun _ => rfl) only [num, vP]) | ((with_reducible first | apply gsnd | apply csnd | apply gsd | apply csd | apply gsn | apply csn | apply gs | apply cs_) <;> intro _) | (with_reducible refine objQ_i (fun _ _ => ?_); repeat with_reducible refine imp_i (fun _ => ?_)) | (with_reducible first | refine callH_use (hm) ?_ | refine pureQ_use (hm) ?_) | (with_reducible first | refine callH_use (hL) ?_ | refine pureQ_use (hL) ?_) | (with_reducible first | refine callH_use (hf) ?_ | refine pureQ_use (hf) ?_) | (with_reducible first | refine callH_use (hu) ?_ | refine pureQ_use (hu) ?_)))
        rename_i b h1
        have hp := HP.out rfl rfl rfl rfl b (by simp [St.ins])
        unfold num at hp
        refine callH_then hp ?_
        rintro _ _ ⟨rfl, rfl⟩
        clear hp HP
        (repeat' (first | (simp (maxDischargeDepth := 16) only [*, num, vX, ↓vD, vU, ↓vMd, vMu, vZ, seval]) | (simp (disch := first | assumption | omega | rfl | exact fun _ => rfl) only [num, vP]) | ((with_reducible first | apply gsnd | apply csnd | apply gsd | apply csd | apply gsn | apply csn | apply gs | apply cs_) <;> intro _) | (with_reducible refine objQ_i (fun _ _ => ?_); repeat with_reducible refine imp_i (fun _ => ?_))))
      · (repeat' (first | (simp (maxDischargeDepth := 16) only [*, num, vX, ↓vD, vU, ↓vMd, vMu, vZ, seval]) | (simp (disch := first | assumption | omega | rfl | exact fun _ => rfl) only [num, vP]) | ((with_reducible first | apply gsnd | apply csnd | apply gsd | apply csd | apply gsn | apply csn | apply gs | apply cs_) <;> intro _) | (with_reducible refine objQ_i (fun _ _ => ?_); repeat with_reducible refine imp_i (fun _ => ?_)) | (with_reducible first | refine callH_use (hm) ?_ | refine pureQ_use (hm) ?_) | (with_reducible first | refine callH_use (hL) ?_ | refine pureQ_use (hL) ?_) | (with_reducible first | refine callH_use (hf) ?_ | refine pureQ_use (hf) ?_) | (with_reducible first | refine callH_use (hu) ?_ | refine pureQ_use (hu) ?_)))
    · (repeat' (first | (simp (maxDischargeDepth := 16) only [*, num, vX, ↓vD, vU, ↓vMd, vMu, vZ, seval]) | (simp (disch := first | assumption | omega | rfl | exact fun _ => rfl) only [num, vP]) | ((with_reducible first | apply gsnd | apply csnd | apply gsd | apply csd | apply gsn | apply csn | apply gs | apply cs_) <;> intro _) | (with_reducible refine objQ_i (fun _ _ => ?_); repeat with_reducible refine imp_i (fun _ => ?_)) | (with_reducible first | refine callH_use (hm) ?_ | refine pureQ_use (hm) ?_) | (with_reducible first | refine callH_use (hL) ?_ | refine pureQ_use (hL) ?_) | (with_reducible first | refine callH_use (hf) ?_ | refine pureQ_use (hf) ?_)))
  · cases m
    · (repeat' (first | (simp (maxDischargeDepth := 16) only [*, num, vX, ↓vD, vU, ↓vMd, vMu, vZ, seval]) | (simp (disch := first | assumption | omega | rfl | exact fun _ => rfl) only [num, vP]) | ((with_reducible first | apply gsnd | apply csnd | apply gsd | apply csd | apply gsn | apply csn | apply gs | apply cs_) <;> intro _) | (with_reducible refine objQ_i (fun _ _ => ?_); repeat with_reducible refine imp_i (fun _ => ?_)) | (with_reducible first | refine callH_use (hm) ?_ | refine pureQ_use (hm) ?_)))
    · (repeat' (first | (simp (maxDischargeDepth := 16) only [*, num, vX, ↓vD, vU, ↓vMd, vMu, vZ, seval]) | (simp (disch := first | assumption | omega | rfl | exact fun _ => rfl) only [num, vP]) | ((with_reducible first | apply gsnd | apply csnd | apply gsd | apply csd | apply gsn | apply csn | apply gs | apply cs_) <;> intro _) | (with_reducible refine objQ_i (fun _ _ => ?_); repeat with_reducible refine imp_i (fun _ => ?_)) | (with_reducible first | refine callH_use (hm) ?_ | refine pureQ_use (hm) ?_) | (with_reducible first | refine callH_use (hL) ?_ | refine pureQ_use (hL) ?_)))
end Go.Proofs.Ytglekfgoadehbaa.V
end
section
set_option linter.unusedSimpArgs false
set_option linter.unusedVariables false
/- Rows of times, time by time, in plain Lean. -/
namespace Go.Proofs.Ytglekfgoadehbaa.V
open Go Go.Proofs
def ticks (m c : Int) : List Int := (List.range (c - m).toNat).map fun (i : Nat) => m + (i : Int)
def allT (l : List Vec) : List Int := l.flatMap fun w => ticks w.m w.c
theorem ticks_nil {m c : Int} (h : c ≤ m) : ticks m c = [] := by
  unfold ticks
  rw [show (c - m).toNat = 0 by omega]; rfl
theorem ticks_cons {m c : Int} (h : m < c) : ticks m c = m :: ticks (m + 1) c := by
  unfold ticks
  rw [show (c - m).toNat = (c - (m + 1)).toNat + 1 by omega, List.range_succ_eq_map, List.map_cons, List.map_map]
  congr 1
  · simp
  · refine List.map_congr_left fun i _ => ?_
    simp only [Function.comp_apply]; omega
theorem mem_ticks {m c t : Int} : t ∈ ticks m c ↔ m ≤ t ∧ t < c := by
  unfold ticks
  simp only [List.mem_map, List.mem_range]
  constructor
  · rintro ⟨i, hi, rfl⟩; omega
  · intro h; exact ⟨(t - m).toNat, by omega, by omega⟩
theorem ticks_len (m c : Int) : (ticks m c).length = (c - m).toNat := by unfold ticks; simp
theorem ticks_up (m c : Int) : (ticks m c).Pairwise (· < ·) := by
  unfold ticks
  rw [List.pairwise_map]
  exact List.pairwise_lt_range.imp (fun h => by omega)
theorem mem_allT {l : List Vec} {t : Int} : t ∈ allT l ↔ memW l t := by
  unfold allT memW
  simp only [List.mem_flatMap, mem_ticks, inW]
theorem allT_cons (w : Vec) (l : List Vec) : allT (w :: l) = ticks w.m w.c ++ allT l := rfl
theorem allT_up : ∀ {l : List Vec} {lo hi : Int}, RowsG lo hi l → (allT l).Pairwise (· < ·)
  | [], _, _, _ => List.Pairwise.nil
  | w :: r, lo, hi, ⟨a, b, c, d⟩ => by
    rw [allT_cons, List.pairwise_append]
    refine ⟨ticks_up _ _, allT_up d, fun x hx y hy => ?_⟩
    have := (mem_ticks.1 hx).2
    have := d.low (mem_allT.1 hy)
    omega
theorem allT_len : ∀ {l : List Vec} {lo hi : Int}, RowsG lo hi l → lo ≤ hi + 1 → ((allT l).length : Int) ≤ hi + 1 - lo
  | [], _, _, _, h => by simp [allT]; omega
  | w :: r, lo, hi, ⟨a, b, c, d⟩, _ => by
    rw [allT_cons, List.length_append, ticks_len]
    have := allT_len d (by omega)
    omega
end Go.Proofs.Ytglekfgoadehbaa.V
end
section
set_option linter.unusedSimpArgs false
set_option linter.unusedVariables false
/- cost.times; slices.Collect at int64, as a row of its own. -/
namespace Go.Proofs.Ytglekfgoadehbaa.V
open Go Go.Proofs
set_option maxRecDepth 100000
set_option maxHeartbeats 4000000
theorem times_c (l : List Vec) (t : Tok) : VPure Try.prog 66 [.sl (l.map Vec.a) t] (.clo 91 [] [.iptr (.sl (l.map Vec.a) t) 0]) := fun Z st => by
  have h : VCalls Try.prog Z 66 [.sl (l.map Vec.a) t] st (fun r s => ∃ bf, st.objs bf = none ∧ r = .clo 91 [] [.ptr bf 0] ∧ s = st.ins bf (.cells [.sl (l.map Vec.a) t])) := by
    refine VCalls.of v_cost_times_ok (Nat.le_of_ble_eq_true rfl) ?_
    simp only [v_cost_times, ↓vD, vU, ↓vMd, vMu, vZ, seval, k_app, k_slc1]
    (repeat' (first | (simp (maxDischargeDepth := 16) only [*, vX, ↓vD, vU, ↓vMd, vMu, vZ, seval]) | (simp (disch := first | assumption | omega | rfl | exact fun _ => rfl) only [vP]) | ((with_reducible first | apply gsnd | apply csnd | apply gsd | apply csd | apply gsn | apply csn | apply gs | apply cs_) <;> intro _) | (with_reducible refine objQ_i (fun _ _ => ?_); repeat with_reducible refine imp_i (fun _ => ?_))))
    rename_i bf hf
    exact ⟨_, St.le.refl _, bf, hf, rfl, rfl⟩
  refine h.wk ?_
  rintro _ _ ⟨bf, hf, rfl, rfl⟩
  (refine ⟨_, st, (Wk.fz _ (b := bf) (x := .sl (l.map Vec.a) t) (by first | (simp only [St.ins, St.del, *, if_true, if_false, eq_self, not_false_eq_true, ite_true, ite_false]; first | done | rfl) | (simp [St.ins, St.del, *]; done) | (simp [St.ins, St.del, *]; rfl)) (by first | rfl | simp [okEl, AV.cells, AV.isCell]) (by first | exact Nat.zero_lt_succ _ | simp [AV.cells]) _).trans (Wk.le (by (refine ⟨fun i o e => ?_, fun _ h => h⟩; revert e; simp only [St.ins, St.del, add_objs, kill_objs]; (repeat' split); all_goals (first | exact id | (intros; contradiction) | (intros; subst_vars; contradiction) | (intros; simp_all; done) | (intros; subst_vars; simp_all; done)))) _), ?_⟩; simp only [AV.sub, AV.subL, *, if_true, if_false, eq_self, ite_true, ite_false])
  try exact ⟨trivial, trivial⟩
theorem times_it (l : List Vec) (hn : l.length ≤ 1000000000) (hb : ∀ w ∈ l, -9000000000000000000 ≤ w.m ∧ w.c ≤ 9000000000000000000) (t : Tok) : VIter Try.prog 91 [] [.iptr (.sl (l.map Vec.a) t) 0] ((allT l).map fun v => [num v]) := by
  intro Y ll I E S0 h0 hy
  obtain ⟨L, hL⟩ : ∃ L, allT l = L := ⟨_, rfl⟩
  simp only [hL, List.length_map, List.getElem_map] at hy ⊢
  have HL : Hid (L = allT l) := ⟨hL.symm⟩
  have HB := Hid.mk hb
  have HY : Hid (∀ k it r, L.drop k = it :: r → ∀ S, I k S → VYield Try.prog Y ll [num it] S (YY I E k)) := ⟨fun k it r h => by
    obtain ⟨hk, rfl, _⟩ := drop_cons h
    exact hy k hk⟩
  clear hL hy hb
  refine VCalls.of v_cost_times_1_ok (Nat.le_of_ble_eq_true rfl) ?_
  simp only [v_cost_times_1, List.nil_append, List.cons_append, ↓vD, vU, ↓vMd, vMu, vZ, seval, k_app, k_slc1]
  (repeat' (first | (simp (maxDischargeDepth := 16) only [*, num, vX, ↓vD, vU, ↓vMd, vMu, vZ, seval]) | (simp (disch := first | assumption | omega | rfl | exact fun _ => rfl) only [num, vP]) | ((with_reducible first | apply gsnd | apply csnd | apply gsd | apply csd | apply gsn | apply csn | apply gs | apply cs_) <;> intro _) | (with_reducible refine objQ_i (fun _ _ => ?_); repeat with_reducible refine imp_i (fun _ => ?_))))
  refine loopf_of (len := l.length) (by simp only [asgL, dsts, List.cons_append, List.nil_append, List.append_nil]; rfl) (by simp only [noR, Bool.and_true, Bool.and_false]; rfl) (by omega) (fun k fr s => ∃ (j : Nat), fr.t 8 = .int .i64 k ∧ I j s ∧ j ≤ L.length ∧ Hid (L.drop j = allT (l.drop k))) ?_ ?_ ?_
  · exact ⟨0, by simp [↓vD, vU, ↓vMd, vMu, vZ, seval, k_app, k_slc1], h0, by omega, ⟨by rw [HL.out]; rfl⟩⟩
  · rintro k fr s hk hwr hfr hd ⟨j, h8, hI, hj, HK⟩
    obtain ⟨w, hx⟩ : ∃ w, l[k] = w := ⟨_, rfl⟩
    have hwb := HB.out w (by rw [← hx]; exact List.getElem_mem _)
    obtain ⟨wb1, wb2⟩ := hwb
    have HD : Hid (L.drop j = ticks w.m w.c ++ allT (l.drop (k + 1))) := ⟨by rw [HK.out, List.drop_eq_getElem_cons hk, hx, allT_cons]⟩
    clear HK
    (repeat' (first | (simp (maxDischargeDepth := 16) only [*, num, Vec.a, vX, ↓vD, vU, ↓vMd, vMu, vZ, seval]) | (simp (disch := first | assumption | omega | rfl | exact fun _ => rfl) only [num, Vec.a, vP]) | ((with_reducible first | apply gsnd | apply csnd | apply gsd | apply csd | apply gsn | apply csn | apply gs | apply cs_) <;> intro _) | (with_reducible refine objQ_i (fun _ _ => ?_); repeat with_reducible refine imp_i (fun _ => ?_))))
    rename_i b4 h4
    refine loopr_of (by simp only [asgL, dsts, List.cons_append, List.nil_append, List.append_nil]; rfl) (by simp only [noR, Bool.and_true, Bool.and_false]; rfl) (fun r fr2 s2 => ∃ (i : Nat) (p : Int) (S : St), s2 = S.ins b4 (.cells [.int .i64 w.m, .int .i64 w.c]) ∧ fr2.t 5 = .int .i64 p ∧ w.m ≤ p ∧ I i S ∧ S.objs b4 = none ∧ i ≤ L.length ∧ r = (w.c - p).toNat ∧ Hid (L.drop i = ticks p w.c ++ allT (l.drop (k + 1)))) ?_ ?_
    · exact ⟨_, j, w.m, s, rfl, by simp [↓vD, vU, ↓vMd, vMu, vZ, seval, k_app, k_slc1], Int.le_refl _, hI, h4, hj, rfl, HD⟩
    · rintro r fr2 s2 hfr2 hd2 ⟨i, p, S, rfl, h5, hp, hI2, hS4, hi, hr, HT⟩
      by_cases hpc : p < w.c
      · have hT := HT.out
        rw [ticks_cons hpc, List.cons_append] at hT
        have HT2 := Hid.mk hT
        have HR := Hid.mk hr
        clear hT HT hr
        (repeat' (first | (simp (maxDischargeDepth := 16) only [*, num, Vec.a, vX, ↓vD, vU, ↓vMd, vMu, vZ, seval]) | (simp (disch := first | assumption | omega | rfl | exact fun _ => rfl) only [num, Vec.a, vP]) | ((with_reducible first | apply gsnd | apply csnd | apply gsd | apply csd | apply gsn | apply csn | apply gs | apply cs_) <;> intro _) | (with_reducible refine objQ_i (fun _ _ => ?_); repeat with_reducible refine imp_i (fun _ => ?_))))
        refine yieldH_then ((HY.out i _ _ HT2.out S hI2).frame b4 _ hS4) rfl ?_
        rintro _ _ ⟨s0, hyy, q4, rfl⟩
        obtain ⟨hj2, _, hd3⟩ := drop_cons HT2.out
        rcases hyy with ⟨rfl, S', hI', hle'⟩ | ⟨rfl, S', hE', hle'⟩
        · have HT3 : Hid (L.drop (i + 1) = ticks (p + 1) w.c ++ allT (l.drop (k + 1))) := ⟨hd3⟩
          clear HT2 hd3
          (repeat' (first | (simp (maxDischargeDepth := 16) only [*, num, Vec.a, vX, ↓vD, vU, ↓vMd, vMu, vZ, seval]) | (simp (disch := first | assumption | omega | rfl | exact fun _ => rfl) only [num, Vec.a, vP]) | ((with_reducible first | apply gsnd | apply csnd | apply gsd | apply csd | apply gsn | apply csn | apply gs | apply cs_) <;> intro _) | (with_reducible refine objQ_i (fun _ _ => ?_); repeat with_reducible refine imp_i (fun _ => ?_))))
          exact ⟨_, St.le.ins hle' b4 _, _, by have := HR.out; omega, i + 1, p + 1, S', rfl, rfl, by omega, hI', hle'.none q4, by omega, rfl, HT3⟩
        · (repeat' (first | (simp (maxDischargeDepth := 16) only [*, num, Vec.a, vX, ↓vD, vU, ↓vMd, vMu, vZ, seval]) | (simp (disch := first | assumption | omega | rfl | exact fun _ => rfl) only [num, Vec.a, vP]) | ((with_reducible first | apply gsnd | apply csnd | apply gsd | apply csd | apply gsn | apply csn | apply gs | apply cs_) <;> intro _) | (with_reducible refine objQ_i (fun _ _ => ?_); repeat with_reducible refine imp_i (fun _ => ?_))))
          exact ⟨_, St.le.refl _, S', .inr hE', hle'.trans (by (refine ⟨fun i o e => ?_, fun _ h => h⟩; revert e; simp only [St.ins, St.del, add_objs, kill_objs]; (repeat' split); all_goals (first | exact id | (intros; contradiction) | (intros; subst_vars; contradiction) | (intros; simp_all; done) | (intros; subst_vars; simp_all; done))))⟩
      · have hT := HT.out
        rw [ticks_nil (by omega), List.nil_append] at hT
        have HT2 := Hid.mk hT
        clear hT HT hr
        (repeat' (first | (simp (maxDischargeDepth := 16) only [*, num, Vec.a, vX, ↓vD, vU, ↓vMd, vMu, vZ, seval]) | (simp (disch := first | assumption | omega | rfl | exact fun _ => rfl) only [num, Vec.a, vP]) | ((with_reducible first | apply gsnd | apply csnd | apply gsd | apply csd | apply gsn | apply csn | apply gs | apply cs_) <;> intro _) | (with_reducible refine objQ_i (fun _ _ => ?_); repeat with_reducible refine imp_i (fun _ => ?_))))
        exact ⟨_, by (refine ⟨fun i o e => ?_, fun _ h => h⟩; revert e; simp only [St.ins, St.del, add_objs, kill_objs]; (repeat' split); all_goals (first | exact id | (intros; contradiction) | (intros; subst_vars; contradiction) | (intros; simp_all; done) | (intros; subst_vars; simp_all; done))), i, hI2, hi, HT2⟩
  · rintro fr s hfr hd ⟨j, h8, hI, hj, HK⟩
    rw [List.drop_length] at HK
    have hjl : j = L.length := by have := List.drop_eq_nil_iff.1 HK.out; omega
    subst hjl
    (repeat' (first | (simp (maxDischargeDepth := 16) only [*, num, vX, ↓vD, vU, ↓vMd, vMu, vZ, seval]) | (simp (disch := first | assumption | omega | rfl | exact fun _ => rfl) only [num, vP]) | ((with_reducible first | apply gsnd | apply csnd | apply gsd | apply csd | apply gsn | apply csn | apply gs | apply cs_) <;> intro _) | (with_reducible refine objQ_i (fun _ _ => ?_); repeat with_reducible refine imp_i (fun _ => ?_))))
    exact ⟨_, St.le.refl _, s, .inl hI, St.le.refl _⟩
end Go.Proofs.Ytglekfgoadehbaa.V
end
section
set_option linter.unusedSimpArgs false
set_option linter.unusedVariables false
/- slices.Collect at int64, as a row of its own. -/
namespace Go.Proofs.Ytglekfgoadehbaa.V
open Go Go.Proofs
set_option maxRecDepth 100000
set_option maxHeartbeats 4000000
theorem fl_num (xs : List Int) : fl num xs = xs.map num := by
  induction xs with
  | nil => rfl
  | cons x r ih => rw [fl_cons, ih]; rfl
theorem cells_osl (b n c : Nat) : (AV.osl b n c).cells = [.osl b n c] := rfl
theorem isCell_osl (b n c : Nat) : (AV.osl b n c).isCell = true := rfl
theorem del_at (st : St) (b i : Nat) : (st.del b).objs i = if i = b then none else st.objs i := rfl
theorem del_ins_ (st : St) (b : Nat) (o : AObj) : (st.del b).ins b o = st.ins b o := by
  cases st; simp only [St.ins, St.del, St.mk.injEq, and_true]; funext i; split <;> rfl
theorem AppendSeq_c {Z : Im} {st : St} (xs : List Int) (hn : xs.length ≤ 1000000) {gf : Nat} {fs cs : List AV} (hi : VIter Try.prog gf fs cs (xs.map fun v => [num v])) :
    VCalls Try.prog Z 90 [.sl [] .full, .clo gf fs cs] st (fun r s => (xs = [] ∧ r = .sl [] .full ∧ s = st) ∨ ∃ b c rest, xs ≠ [] ∧ st.objs b = none ∧ (xs.length ≤ c ∧ rest.length = c - xs.length) ∧ r = .osl b xs.length c ∧ s = ob st b num rest xs) := by
  refine VCalls.of v_slices_AppendSeq_int64_int64_ok (Nat.le_of_ble_eq_true rfl) ?_
  simp only [v_slices_AppendSeq_int64_int64, ↓vD, vU, ↓vMd, vMu, vZ, seval, k_app, k_slc1]
  (repeat' (first | (simp (maxDischargeDepth := 16) only [*, vX, ↓vD, vU, ↓vMd, vMu, vZ, seval]) | (simp (disch := first | assumption | omega | rfl | exact fun _ => rfl) only [vP]) | ((with_reducible first | apply gsnd | apply csnd | apply gsd | apply csd | apply gsn | apply csn | apply gs | apply cs_) <;> intro _) | (with_reducible refine objQ_i (fun _ _ => ?_); repeat with_reducible refine imp_i (fun _ => ?_)) | ((try with_reducible refine appK_a ?_); first | (with_reducible refine appD_F (by refine ⟨?_, ?_, ?_, ?_⟩ <;> (first | assumption | omega | exact St.has_add (by assumption) | (simp only [ins_has]; exact St.has_add (by assumption)) | (simp only [ins_has, fresh_ins, kill_ins, add_ins] at *; exact St.has_add (by assumption)) | (simp only [*, ins_has, has_full, St.has_add]; done) | (simp [-List.map_take, -List.map_drop, or_imp, forall_and, Seg.a, Vec.a, Leg.a, num, okEl, cells_agg, cells_int, cells_sl, cells_bool, AV.isCell]; done) | (simp; omega))) (fun _ _ => ?_)) | (with_reducible refine appD_V (by refine ⟨?_, ?_, ?_, ?_, ?_⟩ <;> (first | assumption | omega | exact St.has_add (by assumption) | (simp only [ins_has]; exact St.has_add (by assumption)) | (simp only [ins_has, fresh_ins, kill_ins, add_ins] at *; exact St.has_add (by assumption)) | (simp only [*, ins_has, has_full, St.has_add]; done) | (simp [-List.map_take, -List.map_drop, or_imp, forall_and, Seg.a, Vec.a, Leg.a, num, okEl, cells_agg, cells_int, cells_sl, cells_bool, AV.isCell]; done) | (simp; omega))) (fun _ _ => ?_))) | (with_reducible refine freshQ_i (fun _ _ => ?_))))
  rename_i b2 h2
  refine rng_iter (by simp only [↓vD, vU, ↓vMd, vMu, vZ, seval, k_app, k_slc1]) hi (by simp) (fun k T => (k = 0 ∧ T = st.ins b2 (.cells [.sl [] .full])) ∨ ∃ b c rest, 0 < k ∧ st.objs b = none ∧ ¬ b = b2 ∧ ¬ b2 = b ∧ k ≤ c ∧ rest.length = c - k ∧ T = (st.ins b2 (.cells [.osl b k c])).ins b (.cells ((xs.take k).map num ++ rest))) (fun _ _ => False) (.inl ⟨rfl, rfl⟩) ?_ ?_ (by intro _ _ _ _ _ _ _ h; exact h.elim)
  · rintro Y l0 D r hzy nlD nDl k hk T hT hTl hTD
    rw [List.length_map] at hk
    simp only [List.getElem_map]
    obtain ⟨x, hx⟩ : ∃ x, xs[k] = x := ⟨_, rfl⟩
    have HX : Hid ((xs.take (k + 1)).map num = (xs.take k).map num ++ [num x]) := ⟨by rw [List.take_add_one, List.getElem?_eq_getElem hk, hx, List.map_append]; rfl⟩
    rw [hx]
    clear hx
    rcases hT with ⟨rfl, rfl⟩ | ⟨b, c, rest, hk0, hb, n1, n2, hkc, hr, rfl⟩
    · simp only [ins_objs, ite_some_none] at hTl hTD
      obtain ⟨q1, q2, q3⟩ := hTl
      obtain ⟨r1, r2, r3⟩ := hTD
      (repeat' (first | (simp (maxDischargeDepth := 16) only [*, argsFr1_t, argsFr1_d, num, rq_normal, ↓vD, vU, ↓vMd, vMu, vZ, seval, k_app, k_slc1]) | (with_reducible refine gs (fun _ => ?_) (fun _ => ?_)) | (with_reducible refine cs_ (fun _ => ?_) (fun _ => ?_)) | (with_reducible refine objQ_i (fun _ _ => ?_); repeat with_reducible refine imp_i (fun _ => ?_)) | (with_reducible refine freshQ_i (fun _ _ => ?_))))
      refine appK_new (by simp) (by simp) (by simp [okEl, AV.cells, AV.isCell]) (by simp) (by simp) ?_
      intro b c rest hb hc hr
      simp only [ins_objs, ite_some_none] at hb
      simp only [List.length_nil, List.length_cons, Nat.zero_add, Nat.mul_one] at hc hr
      obtain ⟨n1, n2, n3, n4, n5, n6, hb⟩ := hb
      (repeat' (first | (simp (maxDischargeDepth := 16) only [*, argsFr1_t, argsFr1_d, num, rq_normal, cells_osl, isCell_osl, vX, ↓vD, vU, ↓vMd, vMu, vZ, seval]) | (simp (disch := first | assumption | omega | rfl | exact fun _ => rfl) only [argsFr1_t, argsFr1_d, num, rq_normal, cells_osl, isCell_osl, vP]) | ((with_reducible first | apply gsnd | apply csnd | apply gsd | apply csd | apply gsn | apply csn | apply gs | apply cs_) <;> intro _) | (with_reducible refine objQ_i (fun _ _ => ?_); repeat with_reducible refine imp_i (fun _ => ?_)) | ((try with_reducible refine appK_a ?_); first | (with_reducible refine appD_F (by refine ⟨?_, ?_, ?_, ?_⟩ <;> (first | assumption | omega | exact St.has_add (by assumption) | (simp only [ins_has]; exact St.has_add (by assumption)) | (simp only [ins_has, fresh_ins, kill_ins, add_ins] at *; exact St.has_add (by assumption)) | (simp only [*, ins_has, has_full, St.has_add]; done) | (simp [-List.map_take, -List.map_drop, or_imp, forall_and, Seg.a, Vec.a, Leg.a, num, okEl, cells_agg, cells_int, cells_sl, cells_bool, AV.isCell]; done) | (simp; omega))) (fun _ _ => ?_)) | (with_reducible refine appD_V (by refine ⟨?_, ?_, ?_, ?_, ?_⟩ <;> (first | assumption | omega | exact St.has_add (by assumption) | (simp only [ins_has]; exact St.has_add (by assumption)) | (simp only [ins_has, fresh_ins, kill_ins, add_ins] at *; exact St.has_add (by assumption)) | (simp only [*, ins_has, has_full, St.has_add]; done) | (simp [-List.map_take, -List.map_drop, or_imp, forall_and, Seg.a, Vec.a, Leg.a, num, okEl, cells_agg, cells_int, cells_sl, cells_bool, AV.isCell]; done) | (simp; omega))) (fun _ _ => ?_))) | (with_reducible refine freshQ_i (fun _ _ => ?_))))
      refine ⟨(st.ins b2 (.cells [.osl b 1 c])).ins b (.cells ((xs.take 1).map num ++ rest)), ⟨.inr ⟨b, c, rest, hb, n5, n6, hc, hr, rfl⟩, ?_⟩, ?_, ?_⟩
      · simp only [St.ins, r1, n4, r3, n3, if_false]
      · simp only [St.ins, *, if_false]
      · rw [HX.out]; (refine ⟨fun i o e => ?_, fun _ h => h⟩; revert e; simp only [St.ins, St.del, add_objs, kill_objs]; (repeat' split); all_goals (first | exact id | (intros; contradiction) | (intros; subst_vars; contradiction) | (intros; simp_all; done) | (intros; subst_vars; simp_all; done)))
    · simp only [ins_objs, ite_some_none] at hTl hTD
      obtain ⟨q1, q2, q3, q4, q5⟩ := hTl
      obtain ⟨r1, r2, r3, r4, r5⟩ := hTD
      (repeat' (first | (simp (maxDischargeDepth := 16) only [*, argsFr1_t, argsFr1_d, num, rq_normal, ↓vD, vU, ↓vMd, vMu, vZ, seval, k_app, k_slc1]) | (with_reducible refine gs (fun _ => ?_) (fun _ => ?_)) | (with_reducible refine cs_ (fun _ => ?_) (fun _ => ?_)) | (with_reducible refine objQ_i (fun _ _ => ?_); repeat with_reducible refine imp_i (fun _ => ?_)) | (with_reducible refine freshQ_i (fun _ _ => ?_))))
      refine appK_osl (cs := (xs.take k).map num ++ rest) (by simp [St.ins, *]) (by simp; omega) (by simp [okEl, AV.cells, AV.isCell]) (by simp; omega) (by simp; omega) ?_
      intro b' c' rest' hb' hc' hr'
      simp only [List.length_cons, List.length_nil, Nat.zero_add, Nat.mul_one] at hc' hr'
      have hcs : ((xs.take k).map num ++ rest).take (k * 1) = (xs.take k).map num := by
        rw [Nat.mul_one, List.take_append_of_le_length (by simp; omega), List.take_of_length_le (by simp; omega)]
      rw [hcs]
      clear hcs
      rcases hb' with rfl | hb'
      · rw [del_ins_]
        (repeat' (first | (simp (maxDischargeDepth := 16) only [*, argsFr1_t, argsFr1_d, num, rq_normal, cells_osl, isCell_osl, vX, ↓vD, vU, ↓vMd, vMu, vZ, seval]) | (simp (disch := first | assumption | omega | rfl | exact fun _ => rfl) only [argsFr1_t, argsFr1_d, num, rq_normal, cells_osl, isCell_osl, vP]) | ((with_reducible first | apply gsnd | apply csnd | apply gsd | apply csd | apply gsn | apply csn | apply gs | apply cs_) <;> intro _) | (with_reducible refine objQ_i (fun _ _ => ?_); repeat with_reducible refine imp_i (fun _ => ?_)) | ((try with_reducible refine appK_a ?_); first | (with_reducible refine appD_F (by refine ⟨?_, ?_, ?_, ?_⟩ <;> (first | assumption | omega | exact St.has_add (by assumption) | (simp only [ins_has]; exact St.has_add (by assumption)) | (simp only [ins_has, fresh_ins, kill_ins, add_ins] at *; exact St.has_add (by assumption)) | (simp only [*, ins_has, has_full, St.has_add]; done) | (simp [-List.map_take, -List.map_drop, or_imp, forall_and, Seg.a, Vec.a, Leg.a, num, okEl, cells_agg, cells_int, cells_sl, cells_bool, AV.isCell]; done) | (simp; omega))) (fun _ _ => ?_)) | (with_reducible refine appD_V (by refine ⟨?_, ?_, ?_, ?_, ?_⟩ <;> (first | assumption | omega | exact St.has_add (by assumption) | (simp only [ins_has]; exact St.has_add (by assumption)) | (simp only [ins_has, fresh_ins, kill_ins, add_ins] at *; exact St.has_add (by assumption)) | (simp only [*, ins_has, has_full, St.has_add]; done) | (simp [-List.map_take, -List.map_drop, or_imp, forall_and, Seg.a, Vec.a, Leg.a, num, okEl, cells_agg, cells_int, cells_sl, cells_bool, AV.isCell]; done) | (simp; omega))) (fun _ _ => ?_))) | (with_reducible refine freshQ_i (fun _ _ => ?_))))
        refine ⟨(st.ins b2 (.cells [.osl b' (k + 1) c'])).ins b' (.cells ((xs.take (k + 1)).map num ++ rest')), ⟨.inr ⟨b', c', rest', by omega, hb, n1, n2, hc', hr', rfl⟩, ?_⟩, ?_, ?_⟩
        · simp only [St.ins, *, if_false]
        · simp only [St.ins, *, if_false]
        · rw [HX.out]; (refine ⟨fun i o e => ?_, fun _ h => h⟩; revert e; simp only [St.ins, St.del, add_objs, kill_objs]; (repeat' split); all_goals (first | exact id | (intros; contradiction) | (intros; subst_vars; contradiction) | (intros; simp_all; done) | (intros; subst_vars; simp_all; done)))
      · simp only [ins_objs, ite_some_none] at hb'
        obtain ⟨m1, m2, m3, m4, m5, m6, m7, m8, hb'⟩ := hb'
        (repeat' (first | (simp (maxDischargeDepth := 16) only [*, argsFr1_t, argsFr1_d, num, rq_normal, cells_osl, isCell_osl, del_at, vX, ↓vD, vU, ↓vMd, vMu, vZ, seval]) | (simp (disch := first | assumption | omega | rfl | exact fun _ => rfl) only [argsFr1_t, argsFr1_d, num, rq_normal, cells_osl, isCell_osl, del_at, vP]) | ((with_reducible first | apply gsnd | apply csnd | apply gsd | apply csd | apply gsn | apply csn | apply gs | apply cs_) <;> intro _) | (with_reducible refine objQ_i (fun _ _ => ?_); repeat with_reducible refine imp_i (fun _ => ?_)) | ((try with_reducible refine appK_a ?_); first | (with_reducible refine appD_F (by refine ⟨?_, ?_, ?_, ?_⟩ <;> (first | assumption | omega | exact St.has_add (by assumption) | (simp only [ins_has]; exact St.has_add (by assumption)) | (simp only [ins_has, fresh_ins, kill_ins, add_ins] at *; exact St.has_add (by assumption)) | (simp only [*, ins_has, has_full, St.has_add]; done) | (simp [-List.map_take, -List.map_drop, or_imp, forall_and, Seg.a, Vec.a, Leg.a, num, okEl, cells_agg, cells_int, cells_sl, cells_bool, AV.isCell]; done) | (simp; omega))) (fun _ _ => ?_)) | (with_reducible refine appD_V (by refine ⟨?_, ?_, ?_, ?_, ?_⟩ <;> (first | assumption | omega | exact St.has_add (by assumption) | (simp only [ins_has]; exact St.has_add (by assumption)) | (simp only [ins_has, fresh_ins, kill_ins, add_ins] at *; exact St.has_add (by assumption)) | (simp only [*, ins_has, has_full, St.has_add]; done) | (simp [-List.map_take, -List.map_drop, or_imp, forall_and, Seg.a, Vec.a, Leg.a, num, okEl, cells_agg, cells_int, cells_sl, cells_bool, AV.isCell]; done) | (simp; omega))) (fun _ _ => ?_))) | (with_reducible refine freshQ_i (fun _ _ => ?_))))
        refine ⟨(st.ins b2 (.cells [.osl b' (k + 1) c'])).ins b' (.cells ((xs.take (k + 1)).map num ++ rest')), ⟨.inr ⟨b', c', rest', by omega, hb', m7, m8, hc', hr', rfl⟩, ?_⟩, ?_, ?_⟩
        · simp only [St.ins, *, if_false]
        · simp only [St.ins, *, if_false]
        · rw [HX.out]; (refine ⟨fun i o e => ?_, fun _ h => h⟩; revert e; simp only [St.ins, St.del, add_objs, kill_objs]; (repeat' split); all_goals (first | exact id | (intros; contradiction) | (intros; subst_vars; contradiction) | (intros; simp_all; done) | (intros; subst_vars; simp_all; done)))
  · rintro D l0 o T nlD nDl hT hTl hTD
    rw [List.length_map] at hT
    rcases hT with ⟨hk, rfl⟩ | ⟨b, c, rest, hk0, hb, n1, n2, hkc, hr, rfl⟩
    · simp only [ins_objs, ite_some_none] at hTl hTD
      obtain ⟨q1, q2, q3⟩ := hTl
      obtain ⟨r1, r2, r3⟩ := hTD
      (repeat' (first | (simp (maxDischargeDepth := 16) only [*, vX, ↓vD, vU, ↓vMd, vMu, vZ, seval]) | (simp (disch := first | assumption | omega | rfl | exact fun _ => rfl) only [vP]) | ((with_reducible first | apply gsnd | apply csnd | apply gsd | apply csd | apply gsn | apply csn | apply gs | apply cs_) <;> intro _) | (with_reducible refine objQ_i (fun _ _ => ?_); repeat with_reducible refine imp_i (fun _ => ?_)) | ((try with_reducible refine appK_a ?_); first | (with_reducible refine appD_F (by refine ⟨?_, ?_, ?_, ?_⟩ <;> (first | assumption | omega | exact St.has_add (by assumption) | (simp only [ins_has]; exact St.has_add (by assumption)) | (simp only [ins_has, fresh_ins, kill_ins, add_ins] at *; exact St.has_add (by assumption)) | (simp only [*, ins_has, has_full, St.has_add]; done) | (simp [-List.map_take, -List.map_drop, or_imp, forall_and, Seg.a, Vec.a, Leg.a, num, okEl, cells_agg, cells_int, cells_sl, cells_bool, AV.isCell]; done) | (simp; omega))) (fun _ _ => ?_)) | (with_reducible refine appD_V (by refine ⟨?_, ?_, ?_, ?_, ?_⟩ <;> (first | assumption | omega | exact St.has_add (by assumption) | (simp only [ins_has]; exact St.has_add (by assumption)) | (simp only [ins_has, fresh_ins, kill_ins, add_ins] at *; exact St.has_add (by assumption)) | (simp only [*, ins_has, has_full, St.has_add]; done) | (simp [-List.map_take, -List.map_drop, or_imp, forall_and, Seg.a, Vec.a, Leg.a, num, okEl, cells_agg, cells_int, cells_sl, cells_bool, AV.isCell]; done) | (simp; omega))) (fun _ _ => ?_))) | (with_reducible refine freshQ_i (fun _ _ => ?_))))
      exact ⟨_, st, rfl, fun D' hD => by rw [List.mem_singleton.1 hD]; exact ⟨by simp [St.ins, *], r3⟩, by simp, by (refine ⟨fun i o e => ?_, fun _ h => h⟩; revert e; simp only [St.ins, St.del, add_objs, kill_objs]; (repeat' split); all_goals (first | exact id | (intros; contradiction) | (intros; subst_vars; contradiction) | (intros; simp_all; done) | (intros; subst_vars; simp_all; done))), .inl ⟨List.length_eq_zero_iff.1 hk, rfl, rfl⟩⟩
    · simp only [ins_objs, ite_some_none] at hTl hTD
      obtain ⟨q1, q2, q3, q4, q5⟩ := hTl
      obtain ⟨r1, r2, r3, r4, r5⟩ := hTD
      (repeat' (first | (simp (maxDischargeDepth := 16) only [*, vX, ↓vD, vU, ↓vMd, vMu, vZ, seval]) | (simp (disch := first | assumption | omega | rfl | exact fun _ => rfl) only [vP]) | ((with_reducible first | apply gsnd | apply csnd | apply gsd | apply csd | apply gsn | apply csn | apply gs | apply cs_) <;> intro _) | (with_reducible refine objQ_i (fun _ _ => ?_); repeat with_reducible refine imp_i (fun _ => ?_)) | ((try with_reducible refine appK_a ?_); first | (with_reducible refine appD_F (by refine ⟨?_, ?_, ?_, ?_⟩ <;> (first | assumption | omega | exact St.has_add (by assumption) | (simp only [ins_has]; exact St.has_add (by assumption)) | (simp only [ins_has, fresh_ins, kill_ins, add_ins] at *; exact St.has_add (by assumption)) | (simp only [*, ins_has, has_full, St.has_add]; done) | (simp [-List.map_take, -List.map_drop, or_imp, forall_and, Seg.a, Vec.a, Leg.a, num, okEl, cells_agg, cells_int, cells_sl, cells_bool, AV.isCell]; done) | (simp; omega))) (fun _ _ => ?_)) | (with_reducible refine appD_V (by refine ⟨?_, ?_, ?_, ?_, ?_⟩ <;> (first | assumption | omega | exact St.has_add (by assumption) | (simp only [ins_has]; exact St.has_add (by assumption)) | (simp only [ins_has, fresh_ins, kill_ins, add_ins] at *; exact St.has_add (by assumption)) | (simp only [*, ins_has, has_full, St.has_add]; done) | (simp [-List.map_take, -List.map_drop, or_imp, forall_and, Seg.a, Vec.a, Leg.a, num, okEl, cells_agg, cells_int, cells_sl, cells_bool, AV.isCell]; done) | (simp; omega))) (fun _ _ => ?_))) | (with_reducible refine freshQ_i (fun _ _ => ?_))))
      exact ⟨_, ob st b num rest xs, rfl, fun D' hD => by rw [List.mem_singleton.1 hD]; exact ⟨by simp [St.ins, *], by simp [ob, St.ins, *]⟩, by simp, by
        rw [ob, fl_num, List.take_length]; (refine ⟨fun i o e => ?_, fun _ h => h⟩; revert e; simp only [St.ins, St.del, add_objs, kill_objs]; (repeat' split); all_goals (first | exact id | (intros; contradiction) | (intros; subst_vars; contradiction) | (intros; simp_all; done) | (intros; subst_vars; simp_all; done))), .inr ⟨b, c, rest, by intro e; subst e; simp at hk0, hb, ⟨hkc, hr⟩, rfl, rfl⟩⟩
theorem Collect_c {Z : Im} {st : St} (xs : List Int) (hn : xs.length ≤ 1000000) {gf : Nat} {fs cs : List AV} (hi : VIter Try.prog gf fs cs (xs.map fun v => [num v])) :
    VCalls Try.prog Z 65 [.clo gf fs cs] st (fun r s => (xs = [] ∧ r = .sl [] .full ∧ s = st) ∨ ∃ b c rest, xs ≠ [] ∧ st.objs b = none ∧ (xs.length ≤ c ∧ rest.length = c - xs.length) ∧ r = .osl b xs.length c ∧ s = ob st b num rest xs) := by
  have h := AppendSeq_c (Z := Z) (st := st) xs hn hi
  refine VCalls.of v_slices_Collect_int64_ok (Nat.le_of_ble_eq_true rfl) ?_
  simp only [v_slices_Collect_int64, ↓vD, vU, ↓vMd, vMu, vZ, seval, k_app, k_slc1]
  refine callH_then h ?_
  rintro r s (⟨h1, rfl, rfl⟩ | ⟨b, c, rest, h1, h2, h3, rfl, rfl⟩)
  · clear h
    have H := Hid.mk h1
    clear h1
    (repeat' (first | (simp (maxDischargeDepth := 16) only [*, vX, ↓vD, vU, ↓vMd, vMu, vZ, seval]) | (simp (disch := first | assumption | omega | rfl | exact fun _ => rfl) only [vP]) | ((with_reducible first | apply gsnd | apply csnd | apply gsd | apply csd | apply gsn | apply csn | apply gs | apply cs_) <;> intro _)))
    exact ⟨_, St.le.refl _, .inl ⟨H.out, rfl⟩⟩
  · clear h
    have H := Hid.mk (And.intro h1 (And.intro h2 h3))
    clear h1 h2 h3
    (repeat' (first | (simp (maxDischargeDepth := 16) only [*, vX, ↓vD, vU, ↓vMd, vMu, vZ, seval]) | (simp (disch := first | assumption | omega | rfl | exact fun _ => rfl) only [vP]) | ((with_reducible first | apply gsnd | apply csnd | apply gsd | apply csd | apply gsn | apply csn | apply gs | apply cs_) <;> intro _)))
    exact ⟨_, St.le.refl _, .inr ⟨b, c, rest, H.out.1, H.out.2.1, H.out.2.2, rfl, rfl⟩⟩
end Go.Proofs.Ytglekfgoadehbaa.V
end
