/- slices.Clone of runs; rle.folded, rle.Of, rle.Box. -/
import Derived.Test.YtddbnncimggogaaLv4
import Derived.Test.YtddbnncimggogaaLvSoSeg
import Derived.Test.YtddbnncimggogaaWArr
import Derived.Test.YtddbnncimggogaaPb1
import Derived.Test.YtddbnncimggogaaPb2
import Derived.Deep.DeepCutAuto
import Derived.WalkSpells
import Derived.Lib.BufferMore
namespace Go.Proofs.Ytddbnncimggogaa.Lv
open Go.RowKit Go.Proofs.YtddbnncimggogaaW.PrintWords Go.Proofs.YtddbnncimggogaaW.PrintLast Go.Proofs.YtddbnncimggogaaW.PrintMore Go.Proofs.Ytddbnncimggogaa.Pb
attribute [local go_sem high] eqA28
theorem reps_KM {w w1 : World} {base : Nat} {ok : Nat → Prop} {xs : List Seg} {cs : List Value} (h : Reps (kSeg.K w) 3 xs cs) : Reps (kSeg.M w1 base ok) 3 xs cs :=
  h.imp_ fun p c hp => by rw [k30_open hp]; exact k30_mkM w1 base ok p
theorem reps_one3 {w : World} {xs : List Seg} {cs : List Value} (h : Reps (kSeg.K w) 3 xs cs) : ∀ u ∈ cs, u.oneCell' = true :=
  Kd.reps_one h (by omega) fun p c hp => by rw [k30_open hp]; intro u hu; simp at hu; rcases hu with rfl | rfl | rfl <;> rfl
set_option maxHeartbeats 400000 in
set_option maxRecDepth 100000 in
theorem clone_calls (A : Option Addr) (c : Nat) (xs : List Seg) (w : World) (HC : Kd.C kSeg w A xs.length xs) (hn : xs.length ≤ 1000000000) :
    Calls Try.prog 101 #[.slice A xs.length c] w fun e w' => ∃ v, e = .returned v ∧ Kd.R kSeg 30 w' w.heap.size (fun _ => True) v xs ∧ Below w.heap.size w w' := by
  cases A with
  | none =>
    have hx : xs = [] := by
      rcases Nat.eq_zero_or_pos xs.length with h | h
      · exact List.eq_nil_of_length_eq_zero h
      · obtain ⟨ad, e, _⟩ := HC.2.2 h
        cases e
    subst hx
    clear HC
    have qT : ∀ (w : World) (n c : Nat), (binOp .eql 22 (.slice none n c) (.slice none 0 0)).run Try.prog w = .ok (.bool true) w := fun w n c => Lib.run_eql_slice_nil_nil w n c Try.underlying22
    go_enter Try.func101, Try.ntmps101
    go_wp2
    go_ret
    exact ⟨_, rfl, Kd.R_nil _ _ _ _ _, Below.refl _ _⟩
  | some ad =>
    obtain ⟨inner, hr, hc⟩ := ReadsRow.inner_ HC
    have hsz : kSeg.sz = 3 := rfl
    obtain ⟨i0, hi, hzz⟩ := Option.map_eq_some_iff.1 info30
    simp only [Prod.mk.injEq] at hzz
    have HX := Aside0.mk (And.intro hr (And.intro hc (And.intro hi (And.intro hzz hn))))
    clear hr hc HC hi hzz
    have qT : ∀ (w : World) (a : Addr) (n c : Nat), (binOp .eql 22 (.slice (some a) n c) (.slice none 0 0)).run Try.prog w = .ok (.bool false) w := fun w a n c => Lib.run_eql_slice_some_nil w a n c Try.underlying22
    go_enter Try.func101, Try.ntmps101
    go_wp2_with (at_builtin; refine wpList_append_own_at _ rfl (.tmp 5) (.tmp 6) 22 rfl w.heap.size 30 i0 _ 3 24 Try.underlying22 HX.out.2.2.1 HX.out.2.2.2.1.1 HX.out.2.2.2.1.2.1 HX.out.2.2.2.1.2.2 (by rfl) (by decide) _ 0 [] rfl (World.ownsRow_made _ #[] 0 (Nat.le_refl _) (by decide) rfl) ad xs.length c inner rfl HX.out.1.1 ?hN (reps_one3 HX.out.1) (by have := HX.out.2.2.2.2; simp only [maxLen]; omega) (by have := HX.out.2.2.2.2; omega) (by simp) ?_)
    case hN => exact fun j u hu => pw_cell_below (below_alloc (Below.refl _ _) _) (HX.out.2.1 j u hu)
    intro v1 w1 hown hg _ hat
    have HO := Aside0.mk hown
    have HG := Aside0.mk hg
    clear hown hg hat
    go_wp2
    go_ret
    refine ⟨v1, rfl, ⟨fun _ _ => trivial, inner, (show w1.ownsRow w.heap.size 30 3 v1 xs.length inner from by simpa using HO.out), reps_KM HX.out.1⟩, ?_⟩
    exact Below.grown (below_alloc (Below.refl _ _) _) HG.out (by simp) (fun k hk => by simp [Value.ownBlock] at hk; omega)

theorem blk_far' {w : World} {g : Nat} {o : Obj} (h : w.heap[g]? = some o) {p : Addr} (hp : g ≠ p.block) (u : Value) : (w.setCell p u).heap[g]? = some o := (Below.heap_setCell w p u g hp).trans h
/-! rle.folded$1: a run is put behind what is there, where its value is another one. -/
def putB (x : Seg) (lm lc : Int) : Bool := !(decide (x.f1.f0 = lm) && decide (x.f1.f1 = lc))
structure OutAt (B b1 b2 g : Nat) (og : Obj) (w0 : World) (ys : List Seg) (lm lc : Int) (W : World) : Prop where
  below : Below B w0 W
  size : B ≤ W.heap.size
  c1 : W.heap[b1]? = some (.cells #[.int .i64 lm, .int .i64 lc] 28 (0, 0))
  c2 : ∃ v, W.heap[b2]? = some (.cells #[v] 22 (0, 0)) ∧ Kd.R kSeg 30 W B (fun k => k ≠ g) v ys
  row : W.heap[g]? = some og
def PutPost (B b1 b2 g : Nat) (og : Obj) (w0 : World) (ys : List Seg) (lm lc : Int) (x : Seg) (e : Ending) (w' : World) : Prop := e = .returned (.tuple #[]) ∧
  (if putB x lm lc then OutAt B b1 b2 g og w0 (ys ++ [x]) x.f1.f0 x.f1.f1 w' else OutAt B b1 b2 g og w0 ys lm lc w')
set_option maxHeartbeats 1000000 in
set_option maxRecDepth 100000 in
theorem put_calls (x : Seg) (lm lc : Int) (b1 b2 g B : Nat) (og : Obj) (ys : List Seg) (w0 w : World) (h1 : B ≤ b1) (h2 : B ≤ b2) (hg : g ≠ b1) (hg2 : g ≠ b2) (hO : OutAt B b1 b2 g og w0 ys lm lc w) (hl : ys.length ≤ 1000000000) :
    Calls Try.prog 104 #[segV x, .pointer (some ⟨b1, 0, none⟩), .pointer (some ⟨b2, 0, none⟩)] w (PutPost B b1 b2 g og w0 ys lm lc x) := by
  have hu30 := Try.underlying30
  have hu28 := Try.underlying28
  obtain ⟨hB, hBw, c1, ⟨v, c2, hv⟩, cg⟩ := hO
  have n12 : b1 ≠ b2 := blk_ne c1 c2 (by decide)
  have n13 : b1 ≠ w.heap.size := Nat.ne_of_lt (blk_lt c1)
  have n23 : b2 ≠ w.heap.size := Nat.ne_of_lt (blk_lt c2)
  have ng3 : g ≠ w.heap.size := Nat.ne_of_lt (blk_lt cg)
  have d1 := blk_alloc c1 (.cells #[.int .i64 x.f0, .int .i64 x.f1.f0, .int .i64 x.f1.f1] 30)
  have d2 := blk_alloc c2 (.cells #[.int .i64 x.f0, .int .i64 x.f1.f0, .int .i64 x.f1.f1] 30)
  have d3 := blk_new w (.cells #[.int .i64 x.f0, .int .i64 x.f1.f0, .int .i64 x.f1.f1] 30)
  have dg := blk_alloc cg (.cells #[.int .i64 x.f0, .int .i64 x.f1.f0, .int .i64 x.f1.f1] 30)
  have hv2 := Kd.R_alloc hv (.cells #[.int .i64 x.f0, .int .i64 x.f1.f0, .int .i64 x.f1.f1] 30)
  have hB2 := hB.alloc hBw (.cells #[.int .i64 x.f0, .int .i64 x.f1.f0, .int .i64 x.f1.f1] 30)
  have hs2 : B ≤ (w.alloc (.cells #[.int .i64 x.f0, .int .i64 x.f1.f0, .int .i64 x.f1.f1] 30)).heap.size := by simp; omega
  have hvlt : ∀ k, v.ownBlock = some k → k < w.heap.size := fun k hk => by obtain ⟨inner, ho⟩ := Kd.R_own hv; exact (ho.lt k hk).2
  obtain ⟨W, hW⟩ : ∃ W, W = w.alloc (.cells #[.int .i64 x.f0, .int .i64 x.f1.f0, .int .i64 x.f1.f1] 30) := ⟨_, rfl⟩
  rw [← hW] at d1 d2 d3 dg hv2 hB2 hs2
  unfold segV
  go_enter Try.func104, Try.ntmps104
  go_upto_region 1 with fail
  rw [← hW]
  clear hv c1 c2 cg hB hW
  obtain ⟨b3, hb3⟩ : ∃ b3, b3 = w.heap.size := ⟨_, rfl⟩
  rw [← hb3] at d3 n13 n23 ng3 hvlt ⊢
  have H1 := Aside0.mk d1
  have H2 := Aside0.mk d2
  have H3 := Aside0.mk d3
  have HG := Aside0.mk dg
  have HV := Aside0.mk hv2
  have HB := Aside0.mk hB2
  have HVL := Aside0.mk hvlt
  have e10 : W.cell? ⟨b1, 0, none⟩ = some (.int .i64 lm) := (blk_cell d1 0).trans rfl
  have e11 : W.cell? ⟨b1, 1, none⟩ = some (.int .i64 lc) := (blk_cell d1 1).trans rfl
  have e20 : W.cell? ⟨b2, 0, none⟩ = some v := (blk_cell d2 0).trans rfl
  have e30 : W.cell? ⟨b3, 0, none⟩ = some (.int .i64 x.f0) := (blk_cell d3 0).trans rfl
  have e31 : W.cell? ⟨b3, 1, none⟩ = some (.int .i64 x.f1.f0) := (blk_cell d3 1).trans rfl
  have e32 : W.cell? ⟨b3, 2, none⟩ = some (.int .i64 x.f1.f1) := (blk_cell d3 2).trans rfl
  clear d1 d2 d3 dg hv2 hB2 hvlt hb3
  have hfin : putB x lm lc = false → x.f1.f0 = lm ∧ x.f1.f1 = lc := by simp [putB]
  by_cases hm : x.f1.f0 = lm ∧ x.f1.f1 = lc
  · have hp : putB x lm lc = false := by simp [putB, hm]
    have HP := Aside0.mk hp
    rw [hm.1] at e31
    rw [hm.2] at e32
    clear hp
    clear hm hfin
    go_wp2
    go_end0
    refine ⟨rfl, ?_⟩
    rw [HP.out]
    exact ⟨HB.out, hs2, H1.out, ⟨v, H2.out, HV.out⟩, HG.out⟩
  · have hp : putB x lm lc = true := by cases h : putB x lm lc with | true => rfl | false => exact absurd (hfin h) hm
    have HP := Aside0.mk hp
    clear hp
    have hq : (!x.f1.f0 == lm || !x.f1.f1 == lc) = true := by
      by_cases h : x.f1.f0 = lm
      · have h' : ¬ x.f1.f1 = lc := fun h2 => hm ⟨h, h2⟩
        simp [h']
      · simp [h]
    clear hm hfin
    have m12 : ¬ b1 = b2 := n12
    have m13 : ¬ b1 = b3 := n13
    have m23 : ¬ b2 = b3 := n23
    have m21 : ¬ b2 = b1 := fun h => n12 h.symm
    have m31 : ¬ b3 = b1 := fun h => n13 h.symm
    have m32 : ¬ b3 = b2 := fun h => n23 h.symm
    clear n12 n13 n23
    go_wp2_with (at_builtin; refine Kd.R_append kSeg (w0 := w0) B rfl (.tmp 8) (.tmp 10) 22 30 _ 24 rfl Try.underlying22 info30 rfl (by decide) (by omega) v ys x [.int .i64 x.f0, .int .i64 x.f1.f0, .int .i64 x.f1.f1] (fun k => k ≠ g) (fun _ => False) rfl (by first | (go_simp; done) | (go_simp; rfl)) (k30_mkM _ _ _ x) (fun _ hk => hk.elim) (fun k hk => by have := blk_lt HG.out; omega) HV.out HB.out hs2 (by omega) ?_)
    intro v1 w1 hv1 hb1 hg1 hat
    obtain ⟨A1, ca1, rfl⟩ := Kd.R_slice hv1
    obtain ⟨n1, hn1⟩ : ∃ n1, n1 = (ys ++ [x]).length := ⟨_, rfl⟩
    rw [← hn1] at hv1 ⊢
    have hs3 : B ≤ w1.heap.size := Nat.le_trans hs2 hg1.size
    have f1 := blk_grown H1.out hg1 (Kd.R_ne HV.out H1.out (by decide))
    have f2 := blk_grown H2.out hg1 (Kd.R_ne HV.out H2.out (by decide))
    have f3 := blk_grown H3.out hg1 (fun h => by have := HVL.out b3 h.symm; omega)
    have fg := blk_grown HG.out hg1 (fun h => HV.out.1 g h.symm rfl)
    have F1 := Aside0.mk f1
    have F2 := Aside0.mk f2
    have FG := Aside0.mk fg
    have FV := Aside0.mk hv1
    have FB := Aside0.mk hb1
    have e30' : w1.cell? ⟨b3, 0, none⟩ = some (.int .i64 x.f0) := (blk_cell f3 0).trans rfl
    have e31' : w1.cell? ⟨b3, 1, none⟩ = some (.int .i64 x.f1.f0) := (blk_cell f3 1).trans rfl
    have e32' : w1.cell? ⟨b3, 2, none⟩ = some (.int .i64 x.f1.f1) := (blk_cell f3 2).trans rfl
    have e10' : w1.cell? ⟨b1, 0, none⟩ = some (.int .i64 lm) := (blk_cell f1 0).trans rfl
    have e11' : w1.cell? ⟨b1, 1, none⟩ = some (.int .i64 lc) := (blk_cell f1 1).trans rfl
    have e20' : w1.cell? ⟨b2, 0, none⟩ = some v := (blk_cell f2 0).trans rfl
    have z1 := blk_frozen f1 0
    have z2 := blk_frozen f1 1
    have z3 := blk_frozen f2 0
    clear f1 f2 f3 fg hv1 hb1 hg1 hat hn1
    go_wp2
    go_end0
    refine ⟨rfl, ?_⟩
    rw [HP.out]
    refine ⟨?_, by simpa using hs3, ?_, ⟨.slice A1 n1 ca1, ?_, ?_⟩, ?_⟩
    · exact ((FB.out.setCell h2 _).setCell h1 _).setCell h1 _
    · exact blk_put (blk_put (blk_far F1.out m12 _) 0 _ rfl) 1 _ rfl
    · exact blk_far (blk_far (blk_put F2.out 0 _ rfl) m21 _) m21 _
    · refine Kd.R_set (Kd.R_set (Kd.R_set FV.out F2.out (by decide) _ _) (blk_far F1.out m12 _) (by decide) _ _) (blk_put (blk_far F1.out m12 _) 0 _ rfl) (by decide) _ _
    · exact blk_far' (blk_far' (blk_far' FG.out hg2 _) hg _) hg _
end Go.Proofs.Ytddbnncimggogaa.Lv
