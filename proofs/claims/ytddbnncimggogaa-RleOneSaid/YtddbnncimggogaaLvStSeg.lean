/- slices.SortStableFunc at livery/api.Seg: its functions, walked. -/
import Derived.Test.YtddbnncimggogaaLv0
import Derived.Test.YtddbnncimggogaaLvSP
namespace Go.Proofs.Ytddbnncimggogaa.StSeg
open Go.RowKit Go.Proofs.YtddbnncimggogaaW.PrintWords Go.Proofs.YtddbnncimggogaaW.PrintLast Go.Proofs.YtddbnncimggogaaW.PrintMore Go.Proofs.Ytddbnncimggogaa.Pb Go.Proofs.Ytddbnncimggogaa.Lv Go.Proofs.Ytddbnncimggogaa.SP
def rdE (xs : List Seg) (i : Int) : Seg := xs.getD i.toNat z30
def eV (x : Seg) : Value := .agg #[.int .i64 (x.f0), .int .i64 (x.f1.f0), .int .i64 (x.f1.f1)]
def Holds (cs : Array Value) (xs : List Seg) : Prop := ∀ i : Nat, i < xs.length → cs[i * 3]? = some (.int .i64 ((xs.getD i z30).f0)) ∧ cs[i * 3 + 1]? = some (.int .i64 ((xs.getD i z30).f1.f0)) ∧ cs[i * 3 + 2]? = some (.int .i64 ((xs.getD i z30).f1.f1))
def Row (g N : Nat) (xs : List Seg) (W : World) : Prop := ∃ cs, W.heap[g]? = some (.cells cs 30 (0, 0)) ∧ cs.size = N ∧ xs.length * 3 ≤ N ∧ Holds cs xs
/-- What a caller holds beside the row, through each step of the sort. -/
structure Side (P : Program) (g : Nat) (gc : Nat) (fst cb : Array Value) (cf : Seg → Seg → Int) (I : World → Prop) : Prop where
  cmp : ∀ x y W, I W → Calls P gc (fst ++ (#[eV x, eV y] ++ cb)) W fun e W' => e = .returned (.int .i64 (cf x y)) ∧ I W' ∧ ∀ ob, W.heap[g]? = some ob → W'.heap[g]? = some ob
  set : ∀ W j v, I W → I (W.setCell ⟨g, j, none⟩ v)
  drew : ∀ W, I W → I W.drew
def swp (xs : List Seg) (i j : Nat) : List Seg := (xs.set i (xs.getD j z30)).set j (xs.getD i z30)
theorem len_swp (xs : List Seg) (i j : Nat) : (swp xs i j).length = xs.length := by simp [swp]
theorem swp_app (A B C : List Seg) (x y : Seg) : swp (A ++ x :: (B ++ y :: C)) A.length (A.length + 1 + B.length) = A ++ y :: (B ++ x :: C) := by
  unfold swp
  have e1 : (A ++ x :: (B ++ y :: C)).getD (A.length + 1 + B.length) z30 = y := by
    rw [List.getD_eq_getElem?_getD, List.getElem?_append_right (by omega), show A.length + 1 + B.length - A.length = B.length + 1 by omega, List.getElem?_cons_succ, List.getElem?_append_right (Nat.le_refl _), Nat.sub_self]
    rfl
  have e2 : (A ++ x :: (B ++ y :: C)).getD A.length z30 = x := by simp [List.getD_eq_getElem?_getD]
  rw [e1, e2]
  rw [List.set_append_right _ _ (Nat.le_refl _), Nat.sub_self, List.set_cons_zero]
  rw [List.set_append_right _ _ (by omega), show A.length + 1 + B.length - A.length = B.length + 1 by omega, List.set_cons_succ]
  rw [List.set_append_right _ _ (Nat.le_refl _), Nat.sub_self, List.set_cons_zero]
theorem holds_get {cs : Array Value} {xs : List Seg} (h : Holds cs xs) (i : Nat) (hi : i < xs.length) : cs[i * 3]? = some (.int .i64 ((rdE xs (i : Int)).f0)) ∧ cs[i * 3 + 1]? = some (.int .i64 ((rdE xs (i : Int)).f1.f0)) ∧ cs[i * 3 + 2]? = some (.int .i64 ((rdE xs (i : Int)).f1.f1)) := by
  have e : rdE xs (i : Int) = xs.getD i z30 := by simp [rdE]
  rw [e]
  exact h i hi

theorem holds_swp {cs : Array Value} {xs : List Seg} (h : Holds cs xs) (hs : xs.length * 3 ≤ cs.size) (i j : Nat) (hi : i < xs.length) (hj : j < xs.length) (hne : i ≠ j) :
    Holds ((((((cs.setIfInBounds (i * 3) (.int .i64 ((xs.getD j z30).f0))).setIfInBounds (i * 3 + 1) (.int .i64 ((xs.getD j z30).f1.f0))).setIfInBounds (i * 3 + 2) (.int .i64 ((xs.getD j z30).f1.f1))).setIfInBounds (j * 3) (.int .i64 ((xs.getD i z30).f0))).setIfInBounds (j * 3 + 1) (.int .i64 ((xs.getD i z30).f1.f0))).setIfInBounds (j * 3 + 2) (.int .i64 ((xs.getD i z30).f1.f1))) (swp xs i j) := by
  intro q hq
  rw [len_swp] at hq
  have hq0 := h q hq
  have ev : (swp xs i j).getD q z30 = if q = j then xs.getD i z30 else if q = i then xs.getD j z30 else xs.getD q z30 := by
    unfold swp
    simp only [List.getD_eq_getElem?_getD, List.getElem?_set, List.length_set]
    by_cases h1 : j = q
    · subst h1; simp [hj]
    · by_cases h2 : i = q
      · subst h2; simp [h1, hi, Ne.symm h1]
      · simp [h1, h2, Ne.symm h1, Ne.symm h2, fun hh : q = j => h1 hh.symm, fun hh : q = i => h2 hh.symm]
  rw [ev]
  by_cases h1 : q = j
  · subst h1
    rw [if_pos rfl]
    simp only [Array.getElem?_setIfInBounds, Array.size_setIfInBounds]
    refine ⟨?_, ?_, ?_⟩
    · repeat (first | rw [if_pos trivial] | rw [if_pos (by omega)] | rw [if_neg (by omega)])
    · repeat (first | rw [if_pos trivial] | rw [if_pos (by omega)] | rw [if_neg (by omega)])
    · repeat (first | rw [if_pos trivial] | rw [if_pos (by omega)] | rw [if_neg (by omega)])
  · rw [if_neg h1]
    by_cases h2 : q = i
    · subst h2
      rw [if_pos rfl]
      simp only [Array.getElem?_setIfInBounds, Array.size_setIfInBounds]
      refine ⟨?_, ?_, ?_⟩
      · repeat (first | rw [if_pos trivial] | rw [if_pos (by omega)] | rw [if_neg (by omega)])
      · repeat (first | rw [if_pos trivial] | rw [if_pos (by omega)] | rw [if_neg (by omega)])
      · repeat (first | rw [if_pos trivial] | rw [if_pos (by omega)] | rw [if_neg (by omega)])
    · rw [if_neg h2]
      simp only [Array.getElem?_setIfInBounds, Array.size_setIfInBounds]
      refine ⟨?_, ?_, ?_⟩
      · repeat rw [if_neg (by omega)]
        exact hq0.1
      · repeat rw [if_neg (by omega)]
        exact hq0.2.1
      · repeat rw [if_neg (by omega)]
        exact hq0.2.2

theorem holds_int {cs : Array Value} {xs : List Seg} (h : Holds cs xs) (i : Int) (h0 : 0 ≤ i) (hi : i < xs.length) : cs[i.toNat * 3]? = some (.int .i64 ((rdE xs i).f0)) ∧ cs[i.toNat * 3 + 1]? = some (.int .i64 ((rdE xs i).f1.f0)) ∧ cs[i.toNat * 3 + 2]? = some (.int .i64 ((rdE xs i).f1.f1)) := by
  have := holds_get h i.toNat (by omega)
  rwa [show ((i.toNat : Nat) : Int) = i by omega] at this
theorem row_drew {g N : Nat} {xs : List Seg} {W : World} (h : Row g N xs W) : Row g N xs W.drew := by
  obtain ⟨cs, hb, r⟩ := h
  exact ⟨cs, blk_drew hb, r⟩
/-- The facts that a swap of two elements needs and what it leaves. -/
theorem row_swp {g N : Nat} {xs : List Seg} {W : World} {cs : Array Value} (hb : W.heap[g]? = some (.cells cs 30 (0, 0))) (hs : cs.size = N) (hl : xs.length * 3 ≤ N) (h : Holds cs xs) (i j : Int) (h0 : 0 ≤ i) (hi : i < xs.length) (k0 : 0 ≤ j) (hj : j < xs.length) (hne : i ≠ j) :
    Row g N (swp xs i.toNat j.toNat) ((((((W.setCell ⟨g, i.toNat * 3, none⟩ (.int .i64 ((rdE xs j).f0))).setCell ⟨g, i.toNat * 3 + 1, none⟩ (.int .i64 ((rdE xs j).f1.f0))).setCell ⟨g, i.toNat * 3 + 2, none⟩ (.int .i64 ((rdE xs j).f1.f1))).setCell ⟨g, j.toNat * 3, none⟩ (.int .i64 ((rdE xs i).f0))).setCell ⟨g, j.toNat * 3 + 1, none⟩ (.int .i64 ((rdE xs i).f1.f0))).setCell ⟨g, j.toNat * 3 + 2, none⟩ (.int .i64 ((rdE xs i).f1.f1))) :=
  ⟨_, blk_set (blk_set (blk_set (blk_set (blk_set (blk_set (hb) _ _) _ _) _ _) _ _) _ _) _ _, by simp [hs], by rw [len_swp]; exact hl, by
    have := holds_swp h (by omega) i.toNat j.toNat (by omega) (by omega) (by omega)
    exact this⟩
set_option maxHeartbeats 1000000 in
set_option maxRecDepth 100000 in
theorem swapRange_calls (g N c L : Nat) (a b n : Int) (fv : Value) (I : World → Prop) (xs : List Seg) (w : World) (hset : ∀ W j v, I W → I (W.setCell ⟨g, j, none⟩ v)) (hdrew : ∀ W, I W → I W.drew)
    (hI : I w) (hR : Row g N xs w) (A U B V C : List Seg) (hxs : xs = A ++ (U ++ (B ++ (V ++ C)))) (ha : a = A.length) (hn1 : n = U.length) (hn2 : V.length = U.length) (hb : b = A.length + U.length + B.length) (hm : xs.length ≤ 1000000000) (hL : L = xs.length) :
    Calls Try.prog 161 #[.slice (some ⟨g, 0, none⟩) L c, .int .i64 a, .int .i64 b, .int .i64 n, fv] w fun e w' => e = .returned (.tuple #[]) ∧ I w' ∧ Row g N (A ++ (V ++ (B ++ (U ++ C)))) w' := by
  subst hL
  have hu30 := Try.underlying30
  have hlen : A.length + (U.length + (B.length + (V.length + C.length))) = xs.length := by rw [hxs]; simp
  have ha0 : 0 ≤ a := by omega
  have hb0 : 0 ≤ b := by omega
  have hab : a + n ≤ b := by omega
  have hbn : b + n ≤ xs.length := by omega
  have hb3 : b ≤ 1000000000 := by omega
  have ha3 : a ≤ 1000000000 := by omega
  have hn3 : n ≤ 1000000000 := by omega
  have HR := Aside0.mk hR
  have HX := Aside0.mk (And.intro hxs (And.intro ha (And.intro hn1 (And.intro hn2 (And.intro hb hlen)))))
  have HS := Aside0.mk (And.intro hset hdrew)
  clear hR hxs ha hn1 hn2 hb hlen hset hdrew
  go_enter Try.func161, Try.ntmps161
  go_wp2
  go_loopw [10] (fun v wr => ∃ i : Int, 0 ≤ i ∧ i ≤ n ∧ v = .int .i64 i ∧ I wr ∧ Row g N (A ++ (V.take i.toNat ++ (U.drop i.toNat ++ (B ++ (U.take i.toNat ++ (V.drop i.toNat ++ C)))))) wr) (fun v _ => (n - intOf v).toNat)
  case atStart => exact ⟨0, by omega, by have := HX.out; omega, rfl, hI, by have := HR.out; rw [HX.out.1] at this; simpa using this⟩
  case round =>
    obtain ⟨i, hi0, hin, rfl, hIw, hRw⟩ := hrel
    have hn2 := HX.out.2.2.2.1
    have hn1 := HX.out.2.2.1
    by_cases hlt : i < n
    · obtain ⟨ys, hys⟩ : ∃ ys, ys = A ++ (V.take i.toNat ++ (U.drop i.toNat ++ (B ++ (U.take i.toNat ++ (V.drop i.toNat ++ C))))) := ⟨_, rfl⟩
      rw [← hys] at hRw
      have hyl : ys.length = xs.length := by rw [hys]; have := HX.out; simp; omega
      obtain ⟨cs, hb, hsz, hlN, hH⟩ := hRw
      obtain ⟨p, hp⟩ : ∃ p, p = a + i := ⟨_, rfl⟩
      obtain ⟨q, hq⟩ : ∃ q, q = b + i := ⟨_, rfl⟩
      have hp0 : 0 ≤ p := by omega
      have hq0 : 0 ≤ q := by omega
      have hp1 : p < xs.length := by omega
      have hq1 : q < xs.length := by omega
      have hpq : p ≠ q := by omega
      obtain ⟨xp0, xp1, xp2⟩ := holds_int hH p hp0 (by omega)
      obtain ⟨xq0, xq1, xq2⟩ := holds_int hH q hq0 (by omega)
      have pc0 := (blk_cell hb (p.toNat * 3)).trans xp0
      have pc1 := (blk_cell hb (p.toNat * 3 + 1)).trans xp1
      have pc2 := (blk_cell hb (p.toNat * 3 + 2)).trans xp2
      have qc0 := (blk_cell hb (q.toNat * 3)).trans xq0
      have qc1 := (blk_cell hb (q.toNat * 3 + 1)).trans xq1
      have qc2 := (blk_cell hb (q.toNat * 3 + 2)).trans xq2
      have pz0 := blk_frozen hb (p.toNat * 3)
      have pz1 := blk_frozen hb (p.toNat * 3 + 1)
      have pz2 := blk_frozen hb (p.toNat * 3 + 2)
      have qz0 := blk_frozen hb (q.toNat * 3)
      have qz1 := blk_frozen hb (q.toNat * 3 + 1)
      have qz2 := blk_frozen hb (q.toNat * 3 + 2)
      have fin := row_swp hb hsz (by rw [hyl] at *; exact hlN) hH p q hp0 (by omega) hq0 (by omega) hpq
      have hsw : swp ys p.toNat q.toNat = A ++ (V.take (i + 1).toNat ++ (U.drop (i + 1).toNat ++ (B ++ (U.take (i + 1).toNat ++ (V.drop (i + 1).toNat ++ C))))) := by
        have hiU : i.toNat < U.length := by omega
        have hiV : i.toNat < V.length := by omega
        have e1 : (i + 1).toNat = i.toNat + 1 := by omega
        rw [hys, e1, List.drop_eq_getElem_cons hiU, List.drop_eq_getElem_cons hiV, List.take_succ_eq_append_getElem hiV, List.take_succ_eq_append_getElem hiU]
        have h1 := swp_app (A ++ V.take i.toNat) (U.drop (i.toNat + 1) ++ (B ++ U.take i.toNat)) (V.drop (i.toNat + 1) ++ C) U[i.toNat] V[i.toNat]
        have ea : (A ++ V.take i.toNat).length = p.toNat := by have := HX.out; simp; omega
        have eb : (A ++ V.take i.toNat).length + 1 + (U.drop (i.toNat + 1) ++ (B ++ U.take i.toNat)).length = q.toNat := by have := HX.out; simp; omega
        rw [ea] at h1
        rw [ea] at eb
        rw [eb] at h1
        simp only [List.append_assoc, List.cons_append, List.nil_append] at h1 ⊢
        exact h1
      rw [hsw] at fin
      have HP := Aside0.mk hp
      have HQ := Aside0.mk hq
      have hp' : a + i = p := hp.symm
      have hq' : b + i = q := hq.symm
      have FIN := Aside0.mk fin
      have HIW := Aside0.mk hIw
      clear hp hq fin hIw hsw hH hb hsz hlN hys hyl hn1 hn2
      go_wp2_with fail
      go_region
      all_goals go_wp2
      refine ⟨⟨i + 1, by omega, by omega, rfl, HS.out.2 _ (HS.out.1 _ _ _ (HS.out.1 _ _ _ (HS.out.1 _ _ _ (HS.out.1 _ _ _ (HS.out.1 _ _ _ (HS.out.1 _ _ _ (HIW.out))))))), row_drew FIN.out⟩, by simp [intOf]; omega⟩
    · have hie : i.toNat = U.length := by omega
      have hve : i.toNat = V.length := by omega
      rw [hie] at hRw
      have hfin : Row g N (A ++ (V ++ (B ++ (U ++ C)))) wr := by
        have e2 : List.take U.length V = V := List.take_of_length_le (by omega)
        have e3 : List.drop U.length V = [] := List.drop_of_length_le (by omega)
        rw [e2, e3] at hRw
        simpa using hRw
      clear hie hve hRw hn1 hn2
      go_wp2
      go_end0
      exact ⟨rfl, hIw, hfin⟩

set_option maxHeartbeats 1000000 in
set_option maxRecDepth 100000 in
theorem rotate_calls (g N c L : Nat) (a m b : Int) (fv : Value) (I : World → Prop) (xs : List Seg) (w : World) (hset : ∀ W j v, I W → I (W.setCell ⟨g, j, none⟩ v)) (hdrew : ∀ W, I W → I W.drew)
    (hI : I w) (hR : Row g N xs w) (A U V C : List Seg) (hxs : xs = A ++ (U ++ (V ++ C))) (ha : a = A.length) (hm0 : m = A.length + U.length) (hb : b = A.length + U.length + V.length) (hU : 0 < U.length) (hV : 0 < V.length) (hm : xs.length ≤ 1000000000) (hL : L = xs.length) :
    Calls Try.prog 156 #[.slice (some ⟨g, 0, none⟩) L c, .int .i64 a, .int .i64 m, .int .i64 b, fv] w fun e w' => e = .returned (.tuple #[]) ∧ I w' ∧ Row g N (A ++ (V ++ (U ++ C))) w' := by
  have hlen : A.length + (U.length + (V.length + C.length)) = xs.length := by rw [hxs]; simp
  have ha0 : 0 ≤ a := by omega
  have ham : a < m := by omega
  have hmb : m < b := by omega
  have hbn : b ≤ 1000000000 := by omega
  have hm3 : m ≤ 1000000000 := by omega
  have ha3 : a ≤ 1000000000 := by omega
  have hm1 : 0 ≤ m := by omega
  have hb1 : 0 ≤ b := by omega
  have hat : Row g N (A ++ (U ++ (V ++ C))) w := by rw [← hxs]; exact hR
  have HAT := Aside0.mk hat
  have HX := Aside0.mk (And.intro hxs (And.intro ha (And.intro hm0 (And.intro hb (And.intro hlen (And.intro hU (And.intro hV (And.intro hm hL))))))))
  have HS := Aside0.mk (And.intro hset hdrew)
  obtain ⟨T, hT⟩ : ∃ T, T = A ++ (V ++ (U ++ C)) := ⟨_, rfl⟩
  rw [← hT]
  have HT := Aside0.mk hT
  clear hR hxs ha hm0 hb hlen hU hV hset hdrew hat hT hm hL
  go_enter Try.func156, Try.ntmps156
  go_wp2
  go_loopw [10, 11] (fun v1 v2 wr => ∃ (i j : Int) (A1 U1 V1 C1 : List Seg), v1 = .int .i64 i ∧ v2 = .int .i64 j ∧ 0 < i ∧ 0 < j ∧ i + j ≤ 2000000000 ∧ i ≤ m ∧ I wr ∧ Row g N (A1 ++ (U1 ++ (V1 ++ C1))) wr ∧
      Aside0 (i = U1.length ∧ j = V1.length ∧ m = A1.length + U1.length ∧ A1.length + (U1.length + (V1.length + C1.length)) = L ∧ A1 ++ (V1 ++ (U1 ++ C1)) = T)) (fun v1 v2 _ => (intOf v1 + intOf v2).toNat)
  case atStart => exact ⟨m - a, b - m, A, U, V, C, rfl, rfl, by omega, by omega, by omega, by omega, hI, HAT.out, ⟨by have := HX.out; omega, by have := HX.out; omega, by have := HX.out; omega, by have := HX.out; omega, HT.out.symm⟩⟩
  case round =>
    obtain ⟨i, j, A1, U1, V1, C1, rfl, rfl, hi0, hj0, hij, him, hIw, hRw, HC⟩ := hrel
    have hi9 : i ≤ 1000000000 := by omega
    have hj9 : j ≤ 1000000000 := by have := HC.out; have := HX.out; omega
    have hmj : m + j ≤ 1000000000 := by have := HC.out; have := HX.out; omega
    by_cases heq : i = j
    · have hd : (i != j) = false := by simp [heq]
      have hd2 : (i == j) = true := by simp [heq]
      have HEQ := Aside0.mk heq
      clear heq
      go_wp2_with fail
      refine (swapRange_calls g N c L (m - i) m i fv I _ wr HS.out.1 HS.out.2 hIw hRw A1 U1 [] V1 C1 (by simp) (by have := HC.out; omega) (by have := HC.out; omega) (by have := HC.out; have := HEQ.out; omega) (by have := HC.out; simp; omega) (by have := HC.out; have := HX.out; simp; omega) (by have := HC.out; simp; omega)).mono ?_
      rintro e w1 ⟨rfl, hI1, hR1⟩
      clear hIw hRw
      have hf : Row g N T w1 := by have := HC.out.2.2.2.2; rw [← this]; simpa using hR1
      clear hR1
      go_wp2
      go_end0
      exact ⟨rfl, hI1, hf⟩
    · have hd : (i != j) = true := by simp [heq]
      have hd2 : (i == j) = false := by simp [heq]
      by_cases hgt : j < i
      · have hd3 : decide (j < i) = true := decide_eq_true hgt
        clear heq
        have hsp : U1 = U1.take j.toNat ++ U1.drop j.toNat := (List.take_append_drop _ _).symm
        have hdec : A1 ++ (U1 ++ (V1 ++ C1)) = A1 ++ (U1.take j.toNat ++ (U1.drop j.toNat ++ (V1 ++ C1))) := by rw [← List.append_assoc (U1.take _), List.take_append_drop]
        have hl1 : (U1.take j.toNat).length = V1.length := by have := HC.out; simp; omega
        have hl2 : (U1.drop j.toNat).length = (i - j).toNat := by have := HC.out; simp; omega
        go_wp2_with fail
        refine (swapRange_calls g N c L (m - i) m j fv I _ wr HS.out.1 HS.out.2 hIw hRw A1 (U1.take j.toNat) (U1.drop j.toNat) V1 C1 hdec (by have := HC.out; omega) (by have := HC.out; omega) (by omega) (by have := HC.out; omega) (by have := HC.out; have := HX.out; simp; omega) (by have := HC.out; simp; omega)).mono ?_
        rintro e w1 ⟨rfl, hI1, hR1⟩
        clear hIw hRw
        have hnew : Aside0 (i - j = (U1.drop j.toNat).length ∧ j = (U1.take j.toNat).length ∧ m = (A1 ++ V1).length + (U1.drop j.toNat).length ∧ (A1 ++ V1).length + ((U1.drop j.toNat).length + ((U1.take j.toNat).length + C1.length)) = L ∧ (A1 ++ V1) ++ (U1.take j.toNat ++ (U1.drop j.toNat ++ C1)) = T) := by
          have h := HC.out
          refine ⟨by omega, by omega, by rw [List.length_append]; omega, by rw [List.length_append]; omega, ?_⟩
          rw [← h.2.2.2.2]
          rw [← List.append_assoc (U1.take _), List.take_append_drop, List.append_assoc]
        have hR2 : Row g N ((A1 ++ V1) ++ (U1.drop j.toNat ++ (U1.take j.toNat ++ C1))) w1 := by simpa using hR1
        clear hR1 hsp hl1 hl2
        go_wp2
        go_roundw
        case rel => exact ⟨i - j, j, A1 ++ V1, U1.drop j.toNat, U1.take j.toNat, C1, rfl, rfl, by omega, by omega, by omega, by omega, hI1, hR2, hnew⟩
        case measure => simp [intOf]; omega
      · have hd3 : decide (j < i) = false := decide_eq_false hgt
        have hlt : i < j := by omega
        clear heq
        have hsp : V1 = V1.take (j - i).toNat ++ V1.drop (j - i).toNat := (List.take_append_drop _ _).symm
        have hdec : A1 ++ (U1 ++ (V1 ++ C1)) = A1 ++ (U1 ++ (V1.take (j - i).toNat ++ (V1.drop (j - i).toNat ++ C1))) := by rw [← List.append_assoc (V1.take _), List.take_append_drop]
        have hl1 : (V1.drop (j - i).toNat).length = U1.length := by have := HC.out; simp; omega
        have hl2 : (V1.take (j - i).toNat).length = (j - i).toNat := by have := HC.out; simp; omega
        go_wp2_with fail
        refine (swapRange_calls g N c L (m - i) (m + j - i) i fv I _ wr HS.out.1 HS.out.2 hIw hRw A1 U1 (V1.take (j - i).toNat) (V1.drop (j - i).toNat) C1 hdec (by have := HC.out; omega) (by have := HC.out; omega) (by omega) (by have := HC.out; omega) (by have := HC.out; have := HX.out; simp; omega) (by have := HC.out; simp; omega)).mono ?_
        rintro e w1 ⟨rfl, hI1, hR1⟩
        clear hIw hRw
        have hnew : Aside0 (i = (V1.drop (j - i).toNat).length ∧ j - i = (V1.take (j - i).toNat).length ∧ m = A1.length + (V1.drop (j - i).toNat).length ∧ A1.length + ((V1.drop (j - i).toNat).length + ((V1.take (j - i).toNat).length + (U1 ++ C1).length)) = L ∧ A1 ++ (V1.take (j - i).toNat ++ (V1.drop (j - i).toNat ++ (U1 ++ C1))) = T) := by
          have h := HC.out
          refine ⟨by omega, by omega, by omega, by rw [List.length_append]; omega, ?_⟩
          rw [← h.2.2.2.2]
          rw [← List.append_assoc (V1.take _), List.take_append_drop]
        clear hsp hl1 hl2 hdec
        go_wp2
        go_roundw
        case rel => exact ⟨i, j - i, A1, V1.drop (j - i).toNat, V1.take (j - i).toNat, U1 ++ C1, rfl, rfl, by omega, by omega, by omega, by omega, hI1, hR1, hnew⟩
        case measure => simp [intOf]; omega

/-! A region that draws its order and asks the comparison. -/
structure InR (g : Nat) (I : World → Prop) (w : World) where
  W : World
  side : I W
  row : ∀ ob, w.heap[g]? = some ob → W.heap[g]? = some ob
theorem wp_region_inR {P : Program} {id : Nat} {Q : Exit → Act → World → Prop} {a : Act} {w : World} {l : List Oper} (g : Nat) (I : World → Prop) (hI : I w) (hd : ∀ W, I W → I W.drew) (hm : P.follows .mixedOrders = true) (hB : Region.lexB .any l.toArray = true)
    (h : wpQuiet P l.toArray (fun w' => ∃ p : InR g I w, w' = p.W) (fun a' => ∀ w', (∃ p : InR g I w, w' = p.W) → Q .normal a' w') l a) : (Code.region id l.toArray true).wp P Q a w :=
  wp_region_quiet (C := fun w' => ∃ p : InR g I w, w' = p.W) hm hB ⟨⟨w.drew, hd w hI, fun ob h => blk_drew h⟩, rfl⟩ (by simpa using h)
theorem Calls.inR {P : Program} {f : FuncId} {args : Array Value} {g : Nat} {I : World → Prop} {w : World} {p : InR g I w} {v : Value}
    (h : Calls P f args p.W fun e w' => e = .returned v ∧ I w' ∧ ∀ ob, p.W.heap[g]? = some ob → w'.heap[g]? = some ob) : Calls P f args p.W fun e w'' => e = .returned v ∧ ∃ q : InR g I w, w'' = q.W :=
  h.mono fun _ w' ⟨he, hi, hb⟩ => ⟨he, ⟨w', hi, fun ob hob => hb ob (p.row ob hob)⟩, rfl⟩
theorem InR.cell {g : Nat} {I : World → Prop} {w : World} {cs : Array Value} {t : TypeId} (hb : w.heap[g]? = some (.cells cs t (0, 0))) {j : Nat} {v : Value} (h : cs[j]? = some v) (p : InR g I w) : p.W.cell? ⟨g, j, none⟩ = some v := (blk_cell (p.row _ hb) j).trans h
theorem row_of {g N : Nat} {I : World → Prop} {w : World} {xs : List Seg} (h : Row g N xs w) (p : InR g I w) : Row g N xs p.W := by
  obtain ⟨cs, hb, r⟩ := h
  exact ⟨cs, p.row _ hb, r⟩
theorem swp_comm (xs : List Seg) (i j : Nat) (h : i ≠ j) : swp xs i j = swp xs j i := by
  unfold swp
  rw [List.set_comm _ _ h]
theorem rd_at (A B : List Seg) (x : Seg) (i : Int) (h : i = A.length) : rdE (A ++ x :: B) i = x := by
  unfold rdE
  rw [h]
  simp [List.getD_eq_getElem?_getD]
def ltB (cf : Seg → Seg → Int) (x y : Seg) : Bool := decide (cf x y < 0)
set_option maxHeartbeats 2000000 in
set_option maxRecDepth 100000 in
theorem insertion_calls (gc : Nat) (fst cb : Array Value) (cf : Seg → Seg → Int) (o : SWO (ltB cf)) (g N c L : Nat) (a b : Int) (I : World → Prop) (xs : List Seg) (w : World) (hS : Side Try.prog g gc fst cb cf I)
    (eg : ∀ args w, (callFunc gc args).run Try.prog w = .ok (.enter gc args) w)
    (hI : I w) (hR : Row g N xs w) (A M C : List Seg) (hxs : xs = A ++ (M ++ C)) (ha : a = A.length) (hb : b = A.length + M.length) (hm : xs.length ≤ 1000000000) (hL : L = xs.length) :
    Calls Try.prog 151 #[.slice (some ⟨g, 0, none⟩) L c, .int .i64 a, .int .i64 b, .func (.func gc) fst cb] w fun e w' => e = .returned (.tuple #[]) ∧ I w' ∧ ∃ M', Row g N (A ++ (M' ++ C)) w' ∧ Srt (ltB cf) M' ∧ Stb (ltB cf) M M' := by
  have hu30 := Try.underlying30
  have hlen : A.length + (M.length + C.length) = xs.length := by rw [hxs]; simp
  have hat : Row g N (A ++ (M ++ C)) w := by rw [← hxs]; exact hR
  have ha0 : 0 ≤ a := by omega
  have hab : a ≤ b := by omega
  have hbn : b ≤ 1000000000 := by omega
  have hb0 : 0 ≤ b := by omega
  have hbL : b ≤ L := by omega
  have HAT := Aside0.mk hat
  have HX := Aside0.mk (And.intro ha (And.intro hb (And.intro hlen (And.intro hm hL))))
  have HS := Aside0.mk hS
  clear hR hxs ha hb hlen hat hm hL hS
  go_enter Try.func151, Try.ntmps151
  go_wp2
  have HEG := Aside0.mk eg
  go_loopw [8] (fun v8 wr => ∃ (i : Int) (M1 : List Seg), v8 = .int .i64 i ∧ a < i ∧ i ≤ b + 1 ∧ I wr ∧ Row g N (A ++ (M1 ++ (M.drop (i - a).toNat ++ C))) wr ∧ Aside0 ((M1.length = (i - a).toNat ∨ M.length = 0 ∧ M1 = []) ∧ Srt (ltB cf) M1 ∧ Stb (ltB cf) (M.take (i - a).toNat) M1)) (fun v8 _ => (b + 1 - intOf v8).toNat)
  case atStart =>
    refine ⟨a + 1, M.take 1, rfl, by omega, by omega, hI, ?_, ⟨?_, ?_, ?_⟩⟩
    · have e1 : (a + 1 - a).toNat = 1 := by omega
      rw [e1, ← List.append_assoc (M.take 1), List.take_append_drop]
      exact HAT.out
    · have e1 : (a + 1 - a).toNat = 1 := by omega
      rw [e1]
      cases M with
      | nil => right; simp
      | cons x M => left; simp
    · cases M with
      | nil => exact Srt.nil
      | cons x M => exact Srt.one x
    · have e1 : (a + 1 - a).toNat = 1 := by omega
      rw [e1]
      exact Stb.refl _
  case round =>
    obtain ⟨i, M1, rfl, hai, hib, hIw, hRw, HC⟩ := hrel
    by_cases hlt : i < b
    · obtain ⟨x, hx⟩ : ∃ x, M.drop (i - a).toNat = x :: M.drop (i + 1 - a).toNat := by
        have hl : (i - a).toNat < M.length := by have := HX.out; omega
        have e1 : (i + 1 - a).toNat = (i - a).toNat + 1 := by omega
        exact ⟨M[(i - a).toNat], by rw [e1, ← List.drop_eq_getElem_cons hl]⟩
      have hml : M1.length = (i - a).toNat := by have := HX.out; have := HC.out.1; omega
      have htk : M.take (i + 1 - a).toNat = M.take (i - a).toNat ++ [x] := by
        have hl : (i - a).toNat < M.length := by have := HX.out; omega
        have e1 : (i + 1 - a).toNat = (i - a).toNat + 1 := by omega
        rw [e1, List.take_succ_eq_append_getElem hl]
        rw [List.drop_eq_getElem_cons hl] at hx
        injection hx with hx _
        rw [hx]
      rw [hx] at hRw
      obtain ⟨R, hRR⟩ : ∃ R, R = M.drop (i + 1 - a).toNat ++ C := ⟨_, rfl⟩
      have hRw2 : Row g N (A ++ (M1 ++ (x :: ([] ++ R)))) wr := by rw [hRR]; simpa using hRw
      have HQ := Aside0.mk (And.intro hml (And.intro htk hRR))
      clear hx hml htk hRR hRw
      go_wp2
      go_loopw [9] (fun v9 wr2 => ∃ (j : Int) (P1 P2 : List Seg), v9 = .int .i64 j ∧ a ≤ j ∧ j ≤ i ∧ I wr2 ∧ Row g N (A ++ (P1 ++ (x :: (P2 ++ R)))) wr2 ∧ Aside0 (j = a + P1.length ∧ P1.length + P2.length = M1.length ∧ Srt (ltB cf) (P1 ++ P2) ∧ Stb (ltB cf) (M.take (i - a).toNat) (P1 ++ P2) ∧ ∀ z ∈ P2, ltB cf x z = true)) (fun v9 _ => (intOf v9).toNat)
      case atStart => exact ⟨i, M1, [], rfl, by omega, by omega, hIw, hRw2, ⟨by have := HQ.out; omega, by simp, by simpa using HC.out.2.1, by simpa using HC.out.2.2, by simp⟩⟩
      case round =>
        obtain ⟨j, P1, P2, rfl, haj, hji, hI2, hR2, HD⟩ := hrel
        have hiN : i ≤ 1000000000 := by omega
        have hdr := HS.out.drew
        have HDR := Aside0.mk hdr
        clear hdr
        have inst : Inhabited (InR g I wr) := ⟨⟨wr, hI2, fun _ h => h⟩⟩
        by_cases hja : a < j
        · obtain ⟨P1', y, rfl⟩ : ∃ P y, P1 = P ++ [y] := by
            rcases List.eq_nil_or_concat P1 with h | ⟨P, y, h⟩
            · have := HD.out.1; rw [h] at this; simp at this; omega
            · exact ⟨P, y, by simpa using h⟩
          obtain ⟨m, hm⟩ : ∃ m, m = j - 1 := ⟨_, rfl⟩
          have hw : IntKind.i64.wrap m = m := by rw [IntKind.wrap_i64]; omega
          have hw2 : j - 1 = m := hm.symm
          have hl := HD.out
          have hlen2 : (A ++ ((P1' ++ [y]) ++ (x :: (P2 ++ R)))).length = L := by
            have h1 := HX.out; have h2 := HQ.out
            rw [h2.2.2]
            simp only [List.length_append, List.length_cons, List.length_nil, List.length_drop] at *
            omega
          obtain ⟨ys, hys⟩ : ∃ ys, ys = A ++ ((P1' ++ [y]) ++ (x :: (P2 ++ R))) := ⟨_, rfl⟩
          have ej : rdE ys j = x := by
            rw [hys, ← List.append_assoc]
            exact rd_at _ _ _ _ (by have := HX.out; simp only [List.length_append] at *; omega)
          have em : rdE ys m = y := by
            rw [hys, show A ++ ((P1' ++ [y]) ++ (x :: (P2 ++ R))) = (A ++ P1') ++ y :: (x :: (P2 ++ R)) by simp]
            exact rd_at _ _ _ _ (by have := HX.out; simp only [List.length_append, List.length_cons, List.length_nil] at *; omega)
          have esw : swp ys j.toNat m.toNat = A ++ (P1' ++ (x :: (([y] ++ P2) ++ R))) := by
            have h1 := HX.out
            have h3 := swp_app (A ++ P1') [] (P2 ++ R) y x
            rw [swp_comm _ _ _ (by omega), hys]
            have e3 : (A ++ P1').length = m.toNat := by simp only [List.length_append, List.length_cons, List.length_nil] at *; omega
            have e4 : (A ++ P1').length + 1 + ([] : List Seg).length = j.toNat := by simp only [List.length_append, List.length_cons, List.length_nil] at *; omega
            rw [e4, e3] at h3
            simpa using h3
          rw [← hys] at hR2 hlen2
          obtain ⟨cs, hb, hsz, hlN, hH⟩ := hR2
          have hj1 : j < L := by omega
          have hj0 : 0 ≤ j := by omega
          have hm0 : 0 ≤ m := by omega
          have hm1 : m < L := by omega
          have hjm : j ≠ m := by omega
          have hx0 := holds_int hH j hj0 (by omega)
          have hy0 := holds_int hH m hm0 (by omega)
          rw [ej] at hx0
          rw [em] at hy0
          obtain ⟨xp0, xp1, xp2⟩ := hx0
          obtain ⟨xq0, xq1, xq2⟩ := hy0
          have pc0 := fun p : InR g I wr => InR.cell hb xp0 p
          have pc1 := fun p : InR g I wr => InR.cell hb xp1 p
          have pc2 := fun p : InR g I wr => InR.cell hb xp2 p
          have qc0 := fun p : InR g I wr => InR.cell hb xq0 p
          have qc1 := fun p : InR g I wr => InR.cell hb xq1 p
          have qc2 := fun p : InR g I wr => InR.cell hb xq2 p
          have HB := Aside0.mk (And.intro hb (And.intro hsz (And.intro hlN (And.intro hH (And.intro hlen2 (And.intro ej (And.intro em esw)))))))
          have HM := Aside0.mk hm
          have HYS := Aside0.mk hys
          clear hm hb hsz hlN hH hlen2 ej em esw hl hys xp0 xq0 xp1 xq1 xp2 xq2
          have heg := HEG.out
          go_wp2_with fail
          refine wp_region_inR g I hI2 HDR.out (by kernel_rfl) (by kernel_rfl) ?_
          repeat (quiet_step ((exact Calls.inR (HS.out.cmp x y _ (InR.side _)))))
          refine wpQuiet_nil ?_
          rintro w3 ⟨⟨_, hI3, hrow⟩, rfl⟩
          try dsimp only
          have hb3 := hrow _ HB.out.1
          have fin := row_swp hb3 HB.out.2.1 HB.out.2.2.1 HB.out.2.2.2.1 j m hj0 (by rw [HB.out.2.2.2.2.1]; omega) hm0 (by rw [HB.out.2.2.2.2.1]; omega) hjm
          rw [HB.out.2.2.2.2.2.2.2, HB.out.2.2.2.2.2.1, HB.out.2.2.2.2.2.2.1] at fin
          have hx0 := holds_int HB.out.2.2.2.1 j hj0 (by rw [HB.out.2.2.2.2.1]; omega)
          have hy0 := holds_int HB.out.2.2.2.1 m hm0 (by rw [HB.out.2.2.2.2.1]; omega)
          rw [HB.out.2.2.2.2.2.1] at hx0
          rw [HB.out.2.2.2.2.2.2.1] at hy0
          obtain ⟨xp0, xp1, xp2⟩ := hx0
          obtain ⟨xq0, xq1, xq2⟩ := hy0
          have pd0 := (blk_cell hb3 (j.toNat * 3)).trans xp0
          have pd1 := (blk_cell hb3 (j.toNat * 3 + 1)).trans xp1
          have pd2 := (blk_cell hb3 (j.toNat * 3 + 2)).trans xp2
          have qd0 := (blk_cell hb3 (m.toNat * 3)).trans xq0
          have qd1 := (blk_cell hb3 (m.toNat * 3 + 1)).trans xq1
          have qd2 := (blk_cell hb3 (m.toNat * 3 + 2)).trans xq2
          have pz0 := blk_frozen hb3 (j.toNat * 3)
          have pz1 := blk_frozen hb3 (j.toNat * 3 + 1)
          have pz2 := blk_frozen hb3 (j.toNat * 3 + 2)
          have qz0 := blk_frozen hb3 (m.toNat * 3)
          have qz1 := blk_frozen hb3 (m.toNat * 3 + 1)
          have qz2 := blk_frozen hb3 (m.toNat * 3 + 2)
          have hrw3 : Row g N (A ++ ((P1' ++ [y]) ++ (x :: (P2 ++ R)))) w3 := row_of (⟨cs, HB.out.1, HB.out.2.1, HB.out.2.2.1, HB.out.2.2.2.1⟩ : Row g N ys wr) ⟨w3, hI3, hrow⟩ |> fun h => by rw [HYS.out] at h; exact h
          have HRW3 := Aside0.mk hrw3
          have FIN := Aside0.mk fin
          have HIW := Aside0.mk hI3
          clear hb3 fin hrw3 hI3 hrow xp0 xq0 xp1 xq1 xp2 xq2 pc0 qc0 pc1 qc1 pc2 qc2 inst
          by_cases hc : cf x y < 0
          · have hd : decide (cf x y < 0) = true := decide_eq_true hc
            have hnew : Aside0 (m = a + P1'.length ∧ P1'.length + ([y] ++ P2).length = M1.length ∧ Srt (ltB cf) (P1' ++ ([y] ++ P2)) ∧ Stb (ltB cf) (M.take (i - a).toNat) (P1' ++ ([y] ++ P2)) ∧ ∀ z ∈ [y] ++ P2, ltB cf x z = true) := by
              have h := HD.out; have hm := HM.out
              simp only [List.length_append, List.length_cons, List.length_nil] at h
              refine ⟨by omega, by simp only [List.length_append, List.length_cons, List.length_nil]; omega, by simpa using h.2.2.1, by simpa using h.2.2.2.1, ?_⟩
              exact ins_swap (by simpa [ltB] using hc) h.2.2.2.2
            have hma : a ≤ m := by have := HM.out; omega
            have hmi : m ≤ i := by have := HM.out; omega
            have hmj : m < j := by have := HM.out; omega
            go_wp2_with fail
            go_region
            all_goals go_wp2
            go_roundw
            case rel => exact ⟨m, P1', [y] ++ P2, rfl, hma, hmi, HS.out.drew _ (HS.out.set _ _ _ (HS.out.set _ _ _ (HS.out.set _ _ _ (HS.out.set _ _ _ (HS.out.set _ _ _ (HS.out.set _ _ _ (HIW.out))))))), row_drew FIN.out, hnew⟩
            case measure => simp [intOf]; omega
          · have hd : decide (cf x y < 0) = false := decide_eq_false hc
            have hnew : Aside0 (((P1' ++ [y]) ++ x :: P2).length = (i + 1 - a).toNat ∧ Srt (ltB cf) ((P1' ++ [y]) ++ x :: P2) ∧ Stb (ltB cf) (M.take (i + 1 - a).toNat) ((P1' ++ [y]) ++ x :: P2)) := by
              have h := HD.out; have h2 := HQ.out
              have hs := ins_done o h.2.2.1 h.2.2.2.1 h.2.2.2.2 (last_le o h.2.2.1.left (by simpa [ltB] using hc))
              rw [h2.2.1]
              refine ⟨?_, hs⟩
              simp only [List.length_append, List.length_cons, List.length_nil] at *
              omega
            have hrow4 : Row g N (A ++ (((P1' ++ [y]) ++ x :: P2) ++ (M.drop (i + 1 - a).toNat ++ C))) w3 := by
              have := HRW3.out; rw [HQ.out.2.2] at this; simpa using this
            have HR4 := Aside0.mk hrow4
            clear hrow4
            go_wp2
            go_roundw
            case rel => exact ⟨i + 1, (P1' ++ [y]) ++ x :: P2, rfl, by omega, by omega, HIW.out, HR4.out, ⟨.inl hnew.out.1, hnew.out.2⟩⟩
            case measure => simp [intOf]; omega
        · have hje : j = a := by omega
          have hP : P1 = [] := by have := HD.out.1; exact List.eq_nil_of_length_eq_zero (by omega)
          subst hP
          have hnew : Aside0 ((x :: P2).length = (i + 1 - a).toNat ∧ Srt (ltB cf) (x :: P2) ∧ Stb (ltB cf) (M.take (i + 1 - a).toNat) (x :: P2)) := by
            have h := HD.out; have h2 := HQ.out
            have hs := ins_done o h.2.2.1 h.2.2.2.1 h.2.2.2.2 (by simp)
            rw [h2.2.1]
            refine ⟨?_, by simpa using hs⟩
            simp only [List.length_append, List.length_cons, List.length_nil] at *
            omega
          have hrow4 : Row g N (A ++ ((x :: P2) ++ (M.drop (i + 1 - a).toNat ++ C))) wr := by
            rw [HQ.out.2.2] at hR2; simpa using hR2
          have HR4 := Aside0.mk hrow4
          have HI2 := Aside0.mk hI2
          clear hrow4 hR2 hja hji haj
          subst hje
          go_wp2_with fail
          refine wp_region_inR g I HI2.out HDR.out (by kernel_rfl) (by kernel_rfl) ?_
          repeat (go_big_quiet_step (fail))
          refine wpQuiet_nil ?_
          rintro w3 ⟨⟨_, HI5, hrow⟩, rfl⟩
          have HR5 : Row g N _ w3 := row_of HR4.out ⟨w3, HI5, hrow⟩
          clear hrow inst
          go_wp2
          go_roundw
          case rel => exact ⟨i + 1, x :: P2, rfl, by omega, by omega, HI5, HR5, ⟨.inl hnew.out.1, hnew.out.2⟩⟩
          case measure => simp [intOf]; omega
    · have hfin : ∃ M', Row g N (A ++ (M' ++ C)) wr ∧ Srt (ltB cf) M' ∧ Stb (ltB cf) M M' := by
        have h := HC.out
        have hd : M.drop (i - a).toNat = [] := List.drop_of_length_le (by have := HX.out; omega)
        have ht : M.take (i - a).toNat = M := List.take_of_length_le (by have := HX.out; omega)
        rw [hd] at hRw
        rw [ht] at h
        exact ⟨M1, by simpa using hRw, h.2.1, h.2.2⟩
      have HF := Aside0.mk hfin
      clear hfin hRw
      go_wp2
      go_end0
      exact ⟨rfl, hIw, HF.out⟩

end Go.Proofs.Ytddbnncimggogaa.StSeg
