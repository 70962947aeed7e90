/- Texts of this claim, joined: VOpn, Cslot6, Cfit, Pslot3, C17b, Pcalc5, Pfit, Pfit2, Pcost2, Pslot4, Pord, VXliveryref15, C17d, C17e, O17, Oslot, O17c. -/
import Derived.Test.YtglekfgoadehbaaQCostOrder3
import Derived.OpenShut
import Derived.Test.YtglekfgoadehbaaQCostOrder5
import Derived.Test.YtglekfgoadehbaaQCostOrder4
import Derived.Test.YtglekfgoadehbaaQCostOrder2
import Derived.Test.YtglekfgoadehbaaProg
set_option linter.unusedSimpArgs false
set_option linter.unusedVariables false
section
namespace Go.Proofs.Ytglekfgoadehbaa.V
open Go Go.ChangeShapes Go.WideShapes Go.ChangeAt Go.RowKit Go.Deep
set_option maxRecDepth 100000
def OpC (t : TypeId) (sz : Nat) (R : List AV → Prop) : Prop :=
  ∀ {H : Type} {enc : TypeId × Value → H} {w : World} {base : Nat} {spare : Nat → Bool} {held : Bool} {fuel : Nat} {cs : List Value} {x : DataW H × List MemPlace}, DataW.trod enc Try.prog w base spare held fuel t cs = some x →
    ∃ l : List AV, RepL (imW w) l cs ∧ l.length = sz ∧ l.all AV.isCell = true ∧ R l
theorem OpC.mono {t : TypeId} {sz : Nat} {R R' : List AV → Prop} (h : OpC t sz R) (hr : ∀ l, R l → R' l) : OpC t sz R' := fun hx => by
  obtain ⟨l, h1, h2, h3, h4⟩ := h hx
  exact ⟨l, h1, h2, h3, hr l h4⟩
theorem opn_of {α : Type} {t : TypeId} {sz : Nat} {f : α → AV} {wf : α → Prop} (h : OpC t sz (fun l => ∃ v, l = (f v).cells ∧ wf v)) : Opn t sz f wf := fun hx => by
  obtain ⟨l, h1, h2, h3, v, rfl, h4⟩ := h hx
  exact ⟨v, h1, by simp [okEl, h2, h3], h4⟩
theorem opc_of {α : Type} {t : TypeId} {sz : Nat} {f : α → AV} {wf : α → Prop} (h : Opn t sz f wf) : OpC t sz (fun l => ∃ v, l = (f v).cells ∧ wf v) := fun hx => by
  obtain ⟨v, h1, h2, h3⟩ := h hx
  simp only [okEl, Bool.and_eq_true, beq_iff_eq] at h2
  exact ⟨_, h1, h2.1, h2.2, v, rfl, h3⟩
theorem opc_int {t : TypeId} {k : IntKind} (ht : Try.prog.underlying t = some (.int k)) : OpC t 1 (fun l => ∃ n, l = [.int k n] ∧ (Lit.int k n).wf = true) := by
  intro H enc w base spare held fuel cs x h
  obtain ⟨a, rfl, _, wa⟩ := DataW.trod_int ht h
  exact ⟨[.int k a], by simp [RepL, Rep], rfl, rfl, a, rfl, wa⟩
theorem opc_sl {α : Type} [Inhabited α] {t e : TypeId} {sz : Nat} {f : α → AV} {wf : α → Prop} (ht : Try.prog.underlying t = some (.slice e)) (hsz : Try.prog.cellsOf e = sz) (hp : 0 < sz) (hO : Opn e sz f wf) :
    OpC t 1 (fun l => ∃ xs : List α, l = [.sl (xs.map f) .no] ∧ (∀ x ∈ xs, wf x) ∧ (xs.length : Int) ≤ 9223372036854775807) :=
  OpC.mono (opc_of (opn_sl ht hsz hp hO)) (by rintro l ⟨xs, rfl, h⟩; exact ⟨xs, rfl, h⟩)
def tot : List (Nat × (List AV → Prop)) → Nat
  | [] => 0
  | (n, _) :: r => n + tot r
def AllC : List (Nat × (List AV → Prop)) → List AV → Prop
  | [], l => l = []
  | (_, R) :: r, l => ∃ a b, l = a ++ b ∧ R a ∧ AllC r b
def Parts (w : World) (cs : List Value) : Nat → List (Nat × (List AV → Prop)) → Prop
  | _, [] => True
  | o, (n, R) :: r => (∃ a : List AV, RepL (imW w) a ((cs.drop o).take n) ∧ a.length = n ∧ a.all AV.isCell = true ∧ R a) ∧ Parts w cs (o + n) r
theorem glue {w : World} {cs : List Value} : ∀ {ps : List (Nat × (List AV → Prop))} {o : Nat}, Parts w cs o ps → ∃ l : List AV, RepL (imW w) l ((cs.drop o).take (tot ps)) ∧ l.length = tot ps ∧ l.all AV.isCell = true ∧ AllC ps l
  | [], o, _ => ⟨[], by simp [tot, RepL], rfl, rfl, rfl⟩
  | (n, R) :: r, o, ⟨⟨a, h1, h2, h3, h4⟩, h⟩ => by
    obtain ⟨b, k1, k2, k3, k4⟩ := glue h
    refine ⟨a ++ b, ?_, by simp [h2, k2, tot], by simp only [List.all_append, h3, k3, Bool.and_self], a, b, rfl, h4, k4⟩
    simp only [tot]
    rw [List.take_add, List.drop_drop]
    exact h1.append k1
def SeqC : List Field → Nat → List (Nat × (List AV → Prop)) → Prop
  | [], _, [] => True
  | f :: fs, o, (n, R) :: r => (f.offset = o ∧ Try.prog.cellsOf f.type = n ∧ OpC f.type n R) ∧ SeqC fs (o + n) r
  | _, _, _ => False
theorem opc_struct {t : TypeId} {fs : Array Field} {ps : List (Nat × (List AV → Prop))} (ht : Try.prog.underlying t = some (.struct fs)) (hsz : Try.prog.cellsOf t = tot ps) (hs : SeqC fs.toList 0 ps) : OpC t (tot ps) (AllC ps) := by
  intro H enc w base spare held fuel cs x h
  obtain ⟨xs, n, _, rfl, hl, hlen, hf⟩ := DataW.trod_struct ht h
  have key : ∀ (fl : List Field) (o : Nat) (ps : List (Nat × (List AV → Prop))), (∀ f ∈ fl, ∃ y, DataW.trod enc Try.prog w base spare held n f.type ((cs.drop f.offset).take (Try.prog.cellsOf f.type)) = some y) → SeqC fl o ps → Parts w cs o ps := by
    intro fl
    induction fl with
    | nil =>
      intro o ps _ hs
      cases ps with
      | nil => trivial
      | cons p r => exact hs.elim
    | cons f fl ih =>
      intro o ps hy hs
      match ps, hs with
      | (m, R) :: r, ⟨⟨e1, e2, h3⟩, h4⟩ =>
        obtain ⟨y, hy1⟩ := hy f (by simp)
        rw [e1, e2] at hy1
        exact ⟨h3 hy1, ih _ _ (fun g hg => hy g (by simp [hg])) h4⟩
  have hp := key fs.toList 0 ps (fun f hfm => by
    obtain ⟨i, hi, rfl⟩ := List.getElem_of_mem hfm
    have hi2 : i < fs.size := by simpa using hi
    have := hf i fs[i] (by simp [hi2])
    rw [List.getElem?_eq_getElem (by omega)] at this
    exact ⟨_, by simpa using this⟩) hs
  obtain ⟨l, k1, k2, k3, k4⟩ := glue hp
  refine ⟨l, ?_, k2, k3, k4⟩
  rw [List.drop_zero, List.take_of_length_le (by omega)] at k1
  exact k1
theorem tot_rep (n m : Nat) (R : List AV → Prop) : tot (List.replicate m (n, R)) = m * n := by
  induction m with
  | zero => simp [tot]
  | succ m ih => rw [List.replicate_succ, tot, ih, Nat.add_mul]; omega
theorem opc_array {t e : TypeId} {m n : Nat} {R : List AV → Prop} (ht : Try.prog.underlying t = some (.array m e)) (hsz : Try.prog.cellsOf t = m * n) (he : Try.prog.cellsOf e = n) (hR : OpC e n R) : OpC t (m * n) (AllC (List.replicate m (n, R))) := by
  intro H enc w base spare held fuel cs x h
  obtain ⟨xs, q, _, rfl, hl, hlen, hf⟩ := DataW.trod_array ht h
  have key : ∀ (k i : Nat), i + k = m → Parts w cs (i * n) (List.replicate k (n, R)) := by
    intro k
    induction k with
    | zero => intro _ _; trivial
    | succ k ih =>
      intro i hi
      rw [List.replicate_succ]
      have h1 := hf i (by omega)
      rw [List.getElem?_eq_getElem (by omega), he] at h1
      refine ⟨hR h1, ?_⟩
      have := ih (i + 1) (by omega)
      rwa [Nat.add_mul, Nat.one_mul] at this
  have hp := key m 0 (by omega)
  rw [Nat.zero_mul] at hp
  obtain ⟨l, k1, k2, k3, k4⟩ := glue hp
  rw [tot_rep] at k1 k2
  refine ⟨l, ?_, k2, k3, k4⟩
  rw [List.drop_zero, List.take_of_length_le (by omega)] at k1
  exact k1
theorem open_agg {α : Type} {t : TypeId} {sz : Nat} {g : α → List AV} {wf : α → Prop} {fs : Array Field} (ht : Try.prog.underlying t = some (.struct fs)) (hO : Opn t sz (fun x => .agg (g x)) wf)
    {H : Type} {enc : TypeId × Value → H} {w : World} {base base' : Nat} {spare : Nat → Bool} {held : Bool} {v : Value} {d : DataW H} {ps : List MemPlace} {r : Reach} (hval : Value.okWide Try.prog w r base' t v) (h : DataW.Trod enc Try.prog w base spare held t v d ps) :
    ∃ x : α, Rep (imW w) (.agg (g x)) v ∧ wf x := by
  simp only [Value.okWide, ht] at hval
  obtain ⟨cs, rfl, hsz, _⟩ := hval
  obtain ⟨fuel, hf⟩ := h
  obtain ⟨x, h1, _, h3⟩ := hO hf
  exact ⟨x, by simp only [Rep]; exact ⟨cs, rfl, h1⟩, h3⟩
theorem open_arr {α : Type} {t e : TypeId} {sz m : Nat} {g : α → List AV} {wf : α → Prop} (ht : Try.prog.underlying t = some (.array m e)) (hO : Opn t sz (fun x => .agg (g x)) wf)
    {H : Type} {enc : TypeId × Value → H} {w : World} {base base' : Nat} {spare : Nat → Bool} {held : Bool} {v : Value} {d : DataW H} {ps : List MemPlace} {r : Reach} (hval : Value.okWide Try.prog w r base' t v) (h : DataW.Trod enc Try.prog w base spare held t v d ps) :
    ∃ x : α, Rep (imW w) (.agg (g x)) v ∧ wf x := by
  simp only [Value.okWide, ht] at hval
  obtain ⟨cs, rfl, hsz, _⟩ := hval
  obtain ⟨fuel, hf⟩ := h
  obtain ⟨x, h1, _, h3⟩ := hO hf
  exact ⟨x, by simp only [Rep]; exact ⟨cs, rfl, h1⟩, h3⟩
def wfLeg (x : Leg) : Prop := I64 x.d ∧ wfVec x.v
theorem opc_i64 : OpC 2 1 (fun l => ∃ n, l = [.int .i64 n] ∧ I64 n) := OpC.mono (opc_int (by kernel_rfl)) (by rintro l ⟨n, rfl, h⟩; exact ⟨n, rfl, i64_of h⟩)
theorem opn_win : Opn 43 2 Vec.a wfVec :=
  opn_of (OpC.mono (opc_struct (ps := [(1, _), (1, _)]) Try.underlying43 (by kernel_rfl) ⟨⟨rfl, by kernel_rfl, opc_i64⟩, ⟨rfl, by kernel_rfl, opc_i64⟩, trivial⟩) (by
    rintro l ⟨_, _, rfl, ⟨a, rfl, ha⟩, _, _, rfl, ⟨b, rfl, hb⟩, rfl⟩
    exact ⟨⟨a, b⟩, rfl, ha, hb⟩))
theorem opn_leg : Opn 63 3 Leg.a wfLeg :=
  opn_of (OpC.mono (opc_struct (ps := [(1, _), (2, _)]) Try.underlying63 (by kernel_rfl) ⟨⟨rfl, by kernel_rfl, opc_i64⟩, ⟨rfl, by kernel_rfl, opc_of opn_vec⟩, trivial⟩) (by
    rintro l ⟨_, _, rfl, ⟨a, rfl, ha⟩, _, _, rfl, ⟨b, rfl, hb⟩, rfl⟩
    exact ⟨⟨a, b⟩, rfl, ha, hb⟩))
end Go.Proofs.Ytglekfgoadehbaa.V
end
section
namespace Go.Proofs.Ytglekfgoadehbaa.V
open Go Go.Proofs
set_option maxRecDepth 100000
set_option maxHeartbeats 4000000
structure RowX where
  w : Vec
  l : List Leg
  b0 : Int
  b1 : Int
  deriving Inhabited
def RowX.a (x : RowX) : AV := .agg [.int .i64 x.w.m, .int .i64 x.w.c, .sl (x.l.map Leg.a) .no, .int .u8 x.b0, .int .u8 x.b1]
def U8 (n : Int) : Prop := 0 ≤ n ∧ n ≤ 255
theorem iaa0 (b o : Nat) : viaa 2 1 (.ptr b o) (.int .i64 0) = some (.ptr b o) := by simp [viaa, vfad]
theorem iaa1 (b o : Nat) : viaa 2 1 (.ptr b o) (.int .i64 1) = some (.ptr b (o + 1)) := by simp [viaa, vfad]
end Go.Proofs.Ytglekfgoadehbaa.V
end
section
namespace Go.Proofs.Ytglekfgoadehbaa.V
open Go Go.Proofs
set_option maxRecDepth 100000
set_option maxHeartbeats 4000000
end Go.Proofs.Ytglekfgoadehbaa.V
end
section
namespace Go.Proofs.Ytglekfgoadehbaa.V
open Go Go.Proofs
theorem sumD_nn : ∀ {l : List Leg}, (∀ x ∈ l, 1 ≤ x.d) → 0 ≤ sumD l
  | [], _ => by simp [sumD]
  | x :: r, h => by
    have h1 := sumD_nn (l := r) (fun y hy => h y (by simp [hy]))
    have h2 := h x (by simp)
    simp only [sumD]; omega
theorem leg_ok {f : List Seg} {w : Vec} (hf : mayF f = true) (hw : w.m < w.c) {d a t : Int} {v : Vec} (hd : 1 ≤ d) (h1 : w.m ≤ t + a) (h2 : t + a + d ≤ w.c) :
    (∀ b ∈ lowF f w v, ¬ inW (shiftW d a b) t) ↔ ∀ s, t + a ≤ s → s < t + a + d → leW v (atF f s) = true := by
  have hne := lowF_ne hf hw v
  constructor
  · intro hh s g1 g2
    cases hc : leW v (atF f s) with
    | true => rfl
    | false =>
      obtain ⟨b, hb, hi⟩ := (lowF_mem hf hw v s).2 ⟨by omega, by omega, hc⟩
      refine absurd ?_ (hh b hb)
      simp only [inW, shiftW] at hi ⊢; omega
  · intro hh b hb hi
    have hb2 := hne b hb
    have hin := lowF_in (f := f) (v := v) (w := w) (by omega) b hb
    simp only [inW, shiftW] at hi
    have hm : memW (lowF f w v) (max b.m (t + a)) := ⟨b, hb, by simp only [inW]; omega⟩
    have := ((lowF_mem hf hw v _).1 hm).2.2
    rw [hh _ (by omega) (by omega)] at this
    cases this
theorem RowsG.at {hi : Int} : ∀ {l : List Vec} {lo : Int}, RowsG lo hi l → ∀ i (h : i < l.length), (lo ≤ l[i].m ∧ l[i].m < l[i].c ∧ l[i].c ≤ hi) ∧ ∀ j (h2 : j < l.length), i < j → l[i].c < l[j].m
  | [], _, _, i, h => by simp at h
  | w :: r, lo, ⟨a, b, c, d⟩, 0, h => ⟨⟨a, b, c⟩, fun j h2 h3 => by
      obtain ⟨j, rfl⟩ : ∃ q, j = q + 1 := ⟨j - 1, by omega⟩
      have := (d.at j (by simpa using h2)).1.1
      simp only [List.getElem_cons_zero, List.getElem_cons_succ]; omega⟩
  | w :: r, lo, ⟨a, b, c, d⟩, i + 1, h => by
      obtain ⟨⟨h1, h2, h3⟩, h4⟩ := d.at i (by simpa using h)
      refine ⟨⟨by simp only [List.getElem_cons_succ]; omega, by simpa using h2, by simpa using h3⟩, fun j g1 g2 => ?_⟩
      obtain ⟨j, rfl⟩ : ∃ q, j = q + 1 := ⟨j - 1, by omega⟩
      simpa using h4 j (by simpa using g1) (by omega)
theorem begins_to {f : List Seg} {w : Vec} {l : List Leg} (hO : OkB f w l) : ∀ x ∈ (beginsF f w l).1, x.c ≤ w.c := fun x hx => by
  obtain ⟨h1, h2⟩ := begins_is hO
  obtain ⟨i, hi, rfl⟩ := List.getElem_of_mem hx
  have hr := (h1.at i hi).1
  have := ((h2 ((beginsF f w l).1[i].c - 1)).1 ⟨_, hx, by simp only [inW]; omega⟩).2.1
  have hs : 1 ≤ sumD l := by
    have h3 := hO.pos
    have h4 := hO.len.1
    cases l with
    | nil => simp at h4
    | cons y r =>
      have : 0 ≤ sumD r := sumD_nn (fun z hz => (h3 z (by simp [hz])).1)
      have := (h3 y (by simp)).1
      simp only [sumD]; omega
  omega
end Go.Proofs.Ytglekfgoadehbaa.V
end
section
namespace Go.Proofs.Ytglekfgoadehbaa.V
open Go Go.Proofs
set_option maxRecDepth 100000
set_option maxHeartbeats 4000000
/-- A load, a function, a window, legs, how many are asked for. -/
structure Ask17 where
  load : List Seg
  f : List Seg
  w : Vec
  l : List Leg
  many : Int
  deriving Inhabited
def Ask17.a (x : Ask17) : AV := .agg [.sl (x.load.map Seg.a) .no, .sl (x.f.map Seg.a) .no, .int .i64 x.w.m, .int .i64 x.w.c, .sl (x.l.map Leg.a) .no, .int .i64 x.many]
def wfAsk17 (x : Ask17) : Prop := ((∀ y ∈ x.load, wfSeg y) ∧ (x.load.length : Int) ≤ 9223372036854775807) ∧ ((∀ y ∈ x.f, wfSeg y) ∧ (x.f.length : Int) ≤ 9223372036854775807) ∧ wfVec x.w ∧ ((∀ y ∈ x.l, wfLeg y) ∧ (x.l.length : Int) ≤ 9223372036854775807) ∧ (-9223372036854775808 ≤ x.many ∧ x.many ≤ 9223372036854775807)
/-- What the best ones are, where there are some. -/
structure Best17 (load f : List Seg) (w : Vec) (l : List Leg) (many : Int) (A : List Vec) (T B : List Int) (p : Int → Int) : Prop where
  rows : RowsG w.m (w.c + 1) A
  to : ∀ x ∈ A, x.c ≤ w.c
  win : -1099511627776 ≤ w.m ∧ w.m < w.c ∧ w.c ≤ 1099511627776 ∧ w.c - w.m ≤ 4096
  all : T = allT A
  up : T.Pairwise (· < ·)
  best : B = (bestL p T).take many.toNat
  cost : ∀ t ∈ T, costE load t l = (p t, 0)
  cheap : ∃ r, B = (cheapF load f w l).1 :: r
  least : (cheapF load f w l).2 = p (cheapF load f w l).1
  beg : begE load f w l = 0
  begs : beginsF f w l = (A, 0)
  num : 1 ≤ many ∧ many ≤ 64
theorem best17 {load f : List Seg} {w : Vec} {l : List Leg} {many : Int} (h : bestF load f w l many = 0) : Best17 load f w l many (beginsF f w l).1 (allT (beginsF f w l).1) ((bestL (costP load (lengthF l).1) (allT (beginsF f w l).1)).take many.toNat) (costP load (lengthF l).1) := by
  have h0 : begE load f w l = 0 ∧ 1 ≤ many ∧ many ≤ 64 := by
    unfold bestF at h
    split at h
    · simp at h
    · split at h
      · simp at h
      · exact ⟨h, by omega, by omega⟩
  obtain ⟨h0, h1, h2⟩ := h0
  obtain ⟨k1, k2, k3, k4, hO, k6, k7⟩ := begE_0 h0
  have hrow := (begins_is hO).1
  have hto := begins_to hO
  have h3' := hO.from_
  have h4' := hO.to_
  have hsp := hO.span
  have hwin := hO.win
  simp only [farF, Bool.or_eq_false_iff, decide_eq_false_iff_not] at h3' h4'
  have hup := allT_up hrow
  have hne := allT_ne k4
  obtain ⟨r, hr⟩ := bestL_head (costP load (lengthF l).1) hup hne
  refine ⟨hrow, hto, ⟨by omega, hwin, by omega, hsp⟩, rfl, hup, rfl, fun t ht => ?_, ?_, ?_, h0, by rw [← k2], h1, h2⟩
  · have hm := mem_allT.1 ht
    obtain ⟨x, hx, hxt⟩ := hm
    have h5 := hto x hx
    have h6 := hrow.low ⟨x, hx, hxt⟩
    have hf : farF t = false := by
      unfold inW at hxt
      simp only [farF, Bool.or_eq_false_iff, decide_eq_false_iff_not]; omega
    have hl : (lengthF l).2 = 0 := by
      have h1 := check_1 hO
      unfold checkF at h1
      split at h1
      · split at h1
        · simp at h1
        · rename_i hx; simp only [not_or, Decidable.not_not] at hx; exact hx.1
      · simp at h1
    unfold costE
    rw [if_pos k1, hl, hf, k3]; rfl
  · obtain ⟨m, hm⟩ : ∃ m, many.toNat = m + 1 := ⟨many.toNat - 1, by omega⟩
    refine ⟨r.take m, ?_⟩
    rw [hr, hm, List.take_succ_cons]
    unfold cheapF
    rw [if_pos h0]
  · unfold cheapF
    rw [if_pos h0]
theorem Best17.len {load f : List Seg} {w : Vec} {l : List Leg} {many : Int} {A : List Vec} {T B : List Int} {p : Int → Int} (h : Best17 load f w l many A T B p) : (B.length : Int) = min (T.length : Int) many := by
  rw [h.best, List.length_take, len_bestL]
  have := h.num
  omega
theorem Best17.mem {load f : List Seg} {w : Vec} {l : List Leg} {many : Int} {A : List Vec} {T B : List Int} {p : Int → Int} (h : Best17 load f w l many A T B p) : ∀ t ∈ B, t ∈ T := fun t ht => by
  rw [h.best] at ht
  exact (mem_bestL p).1 (List.mem_of_mem_take ht)
theorem Best17.next {load f : List Seg} {w : Vec} {l : List Leg} {many : Int} {A : List Vec} {T B : List Int} {p : Int → Int} (h : Best17 load f w l many A T B p) {q : Nat} (hq : q + 1 < B.length) : kLt p B[q] B[q + 1] := by
  have hup := bestL_up p h.up
  have : B.Pairwise (kLt p) := by rw [h.best]; exact hup.sublist (List.take_sublist _ _)
  exact List.pairwise_iff_getElem.1 this q (q + 1) (by omega) hq (by omega)
theorem Best17.rest {load f : List Seg} {w : Vec} {l : List Leg} {many : Int} {A : List Vec} {T B : List Int} {p : Int → Int} (h : Best17 load f w l many A T B p) {t : Int} (ht : t ∈ T) (hn : t ∉ B) : ∀ y ∈ B, kLt p y t := fun y hy => by
  rw [h.best] at hn hy
  exact bestL_rest p h.up _ ht hn y hy
end Go.Proofs.Ytglekfgoadehbaa.V
end
section
namespace Go.Proofs.Ytglekfgoadehbaa.V
open Go Go.Proofs Go.Proofs.Ytglekfgoadehbaa.SP
theorem box_fold (a b : Int) (v : Vec) (h : a < b) : foldF [⟨a, v⟩, ⟨b, v0⟩] = withF (withF [] a v) b v0 := by
  have hup : (([⟨a, v⟩, ⟨b, v0⟩] : List Seg).map (·.t)).Pairwise (· < ·) := by simp [h]
  unfold foldF
  rw [srt_self hup]
  have := fold_withs [⟨a, v⟩, ⟨b, v0⟩] [] hup
  rw [show lastW [] = v0 from rfl] at this
  rw [this]; rfl
theorem box_fold0 (a : Int) (v : Vec) : foldF [⟨a, v⟩, ⟨a, v0⟩] = [] := by
  have hs : sortS (ltB cmpS) ([⟨a, v⟩, ⟨a, v0⟩] : List Seg) = [⟨a, v⟩, ⟨a, v0⟩] := by
    refine (sortS_of swoS ?_ (Stb.refl _)).symm
    simp [Srt, ltS]
  unfold foldF
  rw [hs]
  simp [foldB, nextB, putF]
theorem box_ref (a b : Int) (v : Vec) (h : a < b) : refF [⟨a, v⟩, ⟨b, v0⟩] = withF (withF [] a v) b v0 := by
  have ht : timesF [a, b] = [a, b] := timesF_self (by simp [h])
  unfold refF
  simp only [List.map_cons, List.map_nil, ht, List.foldl_cons, List.foldl_nil]
  have e1 : rawF [⟨a, v⟩, ⟨b, v0⟩] a = v := by simp [rawF]; omega
  have e2 : rawF [⟨a, v⟩, ⟨b, v0⟩] b = v0 := by simp [rawF]
  rw [e1, e2]
theorem box_ref0 (a : Int) (v : Vec) : refF [⟨a, v⟩, ⟨a, v0⟩] = [] := by
  have ht : timesF [a, a] = [a] := by simp [timesF, insT, cntT]
  unfold refF
  simp only [List.map_cons, List.map_nil, ht, List.foldl_cons, List.foldl_nil]
  have e2 : rawF [⟨a, v⟩, ⟨a, v0⟩] a = v0 := by simp [rawF]
  rw [e2]; rfl
theorem box_same (a b : Int) (v : Vec) : boxF1 a b v = boxF2 a b v := by
  unfold boxF1 boxF2
  split
  · rfl
  · rename_i h
    unfold ofF refOf
    split
    · rcases Int.lt_or_le a b with c | c
      · rw [box_fold a b v c, box_ref a b v c]
      · have : b = a := by omega
        subst this
        rw [box_fold0, box_ref0]
    · rfl
theorem range_do (f : List Seg) (a b : Int) (v : Vec) : rangeC f a b v = rangeR f a b v := by
  unfold rangeC rangeR
  rw [box_same, add_do]
def boxV (a b : Int) (v : Vec) (t : Int) : Vec := if a ≤ t ∧ t < b then v else v0
theorem box_law (a b : Int) (v : Vec) (h : (boxF2 a b v).2 = 0) : a ≤ b ∧ inR a = true ∧ inR b = true ∧ mayV v = true := by
  unfold boxF2 at h
  split at h
  · cases h
  · rename_i c
    unfold refOf at h
    split at h
    · rename_i hin
      simp only [List.all_cons, List.all_nil, Bool.and_true, Bool.and_eq_true, inSeg] at hin
      exact ⟨by omega, hin.1.1, hin.2.1, hin.1.2⟩
    · cases h
theorem box_spec (a b : Int) (v : Vec) (hab : a ≤ b) (ha : inR a = true) (hb : inR b = true) (hv : mayV v = true) : (boxF2 a b v).2 = 0 ∧ mayF (boxF2 a b v).1 = true ∧ ∀ t, atF (boxF2 a b v).1 t = boxV a b v t := by
  have hin : ([⟨a, v⟩, ⟨b, v0⟩] : List Seg).all inSeg = true := by
    simp only [List.all_cons, List.all_nil, inSeg, ha, hb, hv]; rfl
  have hbox : boxF2 a b v = (refF [⟨a, v⟩, ⟨b, v0⟩], 0) := by
    unfold boxF2 refOf
    rw [if_neg (by omega), if_pos hin]
  rw [hbox]
  refine ⟨rfl, ?_⟩
  rcases Int.lt_or_le a b with c | c
  · simp only
    rw [box_ref a b v c]
    obtain ⟨c1, c2, c3, c4⟩ := with_spec [] a v trivial (by simp)
    obtain ⟨d1, d2, d3, d4⟩ := with_spec (withF [] a v) b v0 c1 (fun x hx => by have := c2 x hx; omega)
    refine ⟨(mayF_iff _).2 ⟨d1, fun x hx => ?_⟩, fun t => ?_⟩
    · rcases d3 x hx with hx | rfl
      · rcases c3 x hx with hx | rfl
        · cases hx
        · unfold inSeg; rw [ha, hv]; rfl
      · unfold inSeg; rw [hb]; rfl
    · rw [d4, c4]
      unfold boxV
      by_cases h1 : b ≤ t
      · rw [if_pos h1, if_neg (by omega)]
      · rw [if_neg h1]
        by_cases h2 : a ≤ t
        · rw [if_pos h2, if_pos (by omega)]
        · rw [if_neg h2, if_neg (by omega)]; rfl
  · have : b = a := by omega
    subst this
    simp only
    rw [box_ref0]
    exact ⟨rfl, fun t => by unfold boxV; rw [if_neg (by omega)]; rfl⟩
end Go.Proofs.Ytglekfgoadehbaa.V
end
section
namespace Go.Proofs.Ytglekfgoadehbaa.V
open Go Go.Proofs
theorem last_stop (t s : Int) (h : t ≤ s) : ∀ l : List Int, ∃ u ∈ t :: l, t ≤ u ∧ u ≤ s ∧ ∀ y ∈ l, ¬ (u < y ∧ y ≤ s)
  | [] => ⟨t, by simp, Int.le_refl _, h, by simp⟩
  | y :: l => by
    obtain ⟨u, h1, h2, h3, h4⟩ := last_stop t s h l
    by_cases hy : u < y ∧ y ≤ s
    · refine ⟨y, by simp, by omega, hy.2, fun z hz => ?_⟩
      rcases List.mem_cons.1 hz with rfl | hz
      · omega
      · have := h4 z hz; omega
    · refine ⟨u, by rcases List.mem_cons.1 h1 with rfl | h1 <;> simp_all, h2, h3, fun z hz => ?_⟩
      rcases List.mem_cons.1 hz with rfl | hz
      · exact hy
      · exact h4 z hz
theorem stops (f : List Seg) (t z : Int) (more : List Int) (p : Vec → Prop) : (∀ s, t ≤ s → s < z → p (atF f s)) ↔ ∀ s ∈ t :: (f.map (·.t) ++ more), t ≤ s → s < z → p (atF f s) := by
  constructor
  · intro h s _ h1 h2; exact h s h1 h2
  · intro h s h1 h2
    obtain ⟨u, g1, g2, g3, g4⟩ := last_stop t s h1 (f.map (·.t) ++ more)
    have e := atF_between f u s g3 (fun x hx => g4 x.t (List.mem_append_left _ (List.mem_map.2 ⟨x, hx, rfl⟩)))
    rw [e]
    exact h u g1 g2 (by omega)
def intoF (f : List Seg) (t d : Int) (v : Vec) : Bool := (t :: f.map (·.t)).all fun s => !((decide (t ≤ s) && decide (s < t + d)) && !leW v (atF f s))
theorem into_iff (f : List Seg) (t d : Int) (v : Vec) : intoF f t d v = true ↔ ∀ s, t ≤ s → s < t + d → leW v (atF f s) = true := by
  have := stops f t (t + d) [] (fun u => leW v u = true)
  rw [List.append_nil] at this
  rw [this]
  unfold intoF
  rw [List.all_eq_true]
  constructor
  · intro h s hs h1 h2
    have := h s hs
    simpa [h1, h2] using this
  · intro h s hs
    simp only [Bool.not_eq_true', Bool.and_eq_false_imp, Bool.and_eq_true, decide_eq_true_eq, Bool.not_eq_false']
    intro ⟨h1, h2⟩
    exact h s hs h1 h2
end Go.Proofs.Ytglekfgoadehbaa.V
end
section
namespace Go.Proofs.Ytglekfgoadehbaa.V
open Go Go.Proofs
structure Pol where
  k : Int
  cap : Vec
  win : Int
  deriving DecidableEq, Repr, Inhabited
end Go.Proofs.Ytglekfgoadehbaa.V
end
section
namespace Go.Proofs.Ytglekfgoadehbaa.V
open Go Go.Proofs
theorem add_ok {f g : List Seg} (hf : mayF f = true) (hg : mayF g = true) (h : (doR 0 f g).2 = 0) : mayF (doR 0 f g).1 = true ∧ ∀ s, (atF (doR 0 f g).1 s).m = (atF f s).m + (atF g s).m ∧ (atF (doR 0 f g).1 s).c = (atF f s).c + (atF g s).c := by
  obtain ⟨_, _, h3, h4⟩ := doR_may h
  refine ⟨h3, fun s => ?_⟩
  have := h4 s
  rw [add_val _ _ (may_at hf s) (may_at hg s)] at this
  obtain ⟨e, _⟩ := told_ok this
  rw [← e]
  exact ⟨rfl, rfl⟩
theorem length_ok {l : List Leg} (h : (lengthF l).2 = 0) : (∀ x ∈ l, 1 ≤ x.d ∧ x.d ≤ 4096) ∧ (0 < l.length ∧ l.length ≤ 16) ∧ lengthF l = (sumD l, 0) := by
  unfold lengthF at h ⊢
  split at h
  · simp at h
  · rename_i hc
    rw [if_neg hc]
    simp only [Bool.or_eq_true, decide_eq_true_eq, not_or, Bool.not_eq_true] at hc
    obtain ⟨⟨h1, h2⟩, h3⟩ := hc
    refine ⟨fun x hx => ?_, by omega, rfl⟩
    have := List.any_eq_false.1 h1 x hx
    simp only [badD, Bool.or_eq_true, decide_eq_true_eq, not_or] at this
    omega
end Go.Proofs.Ytglekfgoadehbaa.V
end
section
namespace Go.Proofs.Ytglekfgoadehbaa.V
open Go Go.Proofs
def okT (f : List Seg) : List Leg → Int → Prop
  | [], _ => True
  | x :: r, t => (∀ s, t ≤ s → s < t + x.d → leW x.v (atF f s) = true) ∧ okT f r (t + x.d)
theorem okL_T {f : List Seg} {w : Vec} (hf : mayF f = true) (hw : w.m < w.c) (t : Int) : ∀ (l : List Leg) (a : Int), (∀ x ∈ l, 1 ≤ x.d) → w.m ≤ t + a → t + a + sumD l ≤ w.c → (okL f w l a t ↔ okT f l (t + a))
  | [], _, _, _, _ => by simp [okL, okT]
  | x :: r, a, hd, h1, h2 => by
    have hx := hd x (by simp)
    have hr : ∀ y ∈ r, 1 ≤ y.d := fun y hy => hd y (by simp [hy])
    have hs := sumD_nn hr
    simp only [sumD] at h2
    simp only [okL, okT]
    rw [leg_ok hf hw hx h1 (by omega), okL_T hf hw t r (a + x.d) hr (by omega) (by omega), show t + (a + x.d) = t + a + x.d by omega]
theorem begins_T {f : List Seg} {w : Vec} {l : List Leg} (h : OkB f w l) (t : Int) : memW (beginsF f w l).1 t ↔ w.m ≤ t ∧ t + sumD l ≤ w.c ∧ okT f l t := by
  rw [(begins_is h).2 t]
  constructor
  · rintro ⟨a, b, c⟩
    have := (okL_T h.may h.win t l 0 (fun x hx => (h.pos x hx).1) (by omega) (by omega)).1 c
    rw [Int.add_zero] at this
    exact ⟨a, b, this⟩
  · rintro ⟨a, b, c⟩
    refine ⟨a, b, (okL_T h.may h.win t l 0 (fun x hx => (h.pos x hx).1) (by omega) (by omega)).2 ?_⟩
    rw [Int.add_zero]; exact c
end Go.Proofs.Ytglekfgoadehbaa.V
end
section
namespace Go.Proofs.Ytglekfgoadehbaa.V
open Go Go.Proofs
theorem range_sum {f : List Seg} {a b : Int} {v : Vec} (h : (rangeR f a b v).2 = 0) : mayF (rangeR f a b v).1 = true ∧ ∀ s, a ≤ s → s < b → (atF (rangeR f a b v).1 s).m = (atF f s).m + v.m ∧ (atF (rangeR f a b v).1 s).c = (atF f s).c + v.c := by
  cases hf : mayF f with
  | false => unfold rangeR at h; rw [hf] at h; cases h
  | true =>
    have e0 : rangeR f a b v = if (boxF2 a b v).2 = 0 then doR 0 f (boxF2 a b v).1 else ([], (boxF2 a b v).2) := by unfold rangeR; rw [hf]; rfl
    by_cases hb0 : (boxF2 a b v).2 = 0
    case neg => rw [e0, if_neg hb0] at h; exact absurd h hb0
    rw [if_pos hb0] at e0
    obtain ⟨hab, ia, ib, iv⟩ := box_law a b v hb0
    obtain ⟨_, mb, vb⟩ := box_spec a b v hab ia ib iv
    rw [e0] at h ⊢
    obtain ⟨h1, h2⟩ := add_ok hf mb h
    refine ⟨h1, fun s g1 g2 => ?_⟩
    have := h2 s
    rw [vb s, boxV, if_pos ⟨g1, g2⟩] at this
    exact this
theorem sumT_shift (h k : Int → Int) (c : Int) : ∀ (n : Nat) (p : Int), (∀ s, p ≤ s → s < p + n → k s = h s + c) → sumT k p n = sumT h p n + n * c
  | 0, p, _ => by simp [sumT]
  | n + 1, p, hc => by
    rw [sumT, sumT, hc p (Int.le_refl _) (by omega), sumT_shift h k c n (p + 1) (fun s h1 h2 => hc s (by omega) (by omega))]
    rw [show ((n + 1 : Nat) : Int) = n + 1 by omega, Int.add_mul]; omega
theorem costP_shift {f g : List Seg} {a b : Int} {v : Vec} (h : ∀ s, a ≤ s → s < b → (atF g s).m = (atF f s).m + v.m ∧ (atF g s).c = (atF f s).c + v.c) {n t : Int} (h0 : 0 ≤ n) (h1 : a ≤ t) (h2 : t + n ≤ b) : costP g n t = costP f n t + n * (v.m + v.c) := by
  unfold costP
  rw [sumT_shift (fun s => (atF f s).m + (atF f s).c) _ (v.m + v.c) n.toNat t (fun s g1 g2 => by have := h s (by omega) (by omega); omega)]
  congr 1
  rw [show (n.toNat : Int) = n by omega]
theorem costP_nil (n t : Int) : costP [] n t = 0 := by
  unfold costP
  have := sumT_const (fun s => (atF [] s).m + (atF [] s).c) 0 n.toNat t (fun s _ _ => rfl)
  rw [this]; omega
def allI (f : List Seg) (w : Vec) : List Leg → Int → Bool
  | [], _ => true
  | x :: r, t => decide (t + x.d ≤ w.c) && intoF f t x.d x.v && allI f w r (t + x.d)
def mayR (f : List Seg) (w : Vec) (l : List Leg) (t : Int) : Bool := decide (w.m ≤ t) && allI f w l t
theorem allI_iff (f : List Seg) (w : Vec) : ∀ (l : List Leg) (t : Int), (∀ x ∈ l, 1 ≤ x.d) → (allI f w l t = true ↔ (l = [] ∨ t + sumD l ≤ w.c) ∧ okT f l t)
  | [], t, _ => by simp [allI, okT]
  | x :: r, t, h => by
    have hx := h x (by simp)
    have hr : ∀ y ∈ r, 1 ≤ y.d := fun y hy => h y (by simp [hy])
    have hs := sumD_nn hr
    simp only [allI, okT, sumD, Bool.and_eq_true, decide_eq_true_eq, into_iff, allI_iff f w r (t + x.d) hr]
    constructor
    · rintro ⟨⟨h1, h2⟩, h3, h4⟩
      refine ⟨.inr ?_, h2, h4⟩
      rcases h3 with rfl | h3
      · simp [sumD]; omega
      · omega
    · rintro ⟨h1, h2, h3⟩
      have h1 : t + (x.d + sumD r) ≤ w.c := by
        rcases h1 with h1 | h1
        · cases h1
        · exact h1
      exact ⟨⟨by omega, h2⟩, .inr (by omega), h3⟩
def allR (f : List Seg) (w : Vec) (l : List Leg) : List Int := (ticks w.m w.c).filter (allI f w l)
theorem up_uniq : ∀ {a b : List Int}, a.Pairwise (· < ·) → b.Pairwise (· < ·) → (∀ z, z ∈ a ↔ z ∈ b) → a = b := fun {a b} ha hb h =>
  kLt_uniq (fun _ => 0) (ha.imp (fun h => .inr ⟨rfl, h⟩)) (hb.imp (fun h => .inr ⟨rfl, h⟩)) h
theorem allR_is {f : List Seg} {w : Vec} {l : List Leg} (h : OkB f w l) : allR f w l = allT (beginsF f w l).1 := by
  refine up_uniq ((ticks_up w.m w.c).filter _) (allT_up (begins_is h).1) (fun z => ?_)
  have hp : ∀ x ∈ l, 1 ≤ x.d := fun x hx => (h.pos x hx).1
  have hs := sumD_nn hp
  unfold allR
  rw [List.mem_filter, mem_ticks, mem_allT, begins_T h, allI_iff f w l z hp]
  have hl := h.len
  have hne : l ≠ [] := fun e => by rw [e] at hl; simp at hl
  have hs1 : 1 ≤ sumD l := by
    cases l with
    | nil => exact absurd rfl hne
    | cons x r =>
      have := sumD_nn (l := r) (fun y hy => hp y (by simp [hy]))
      have := hp x (by simp)
      simp only [sumD]; omega
  constructor
  · rintro ⟨⟨h1, h2⟩, h3, h4⟩
    exact ⟨h1, h3.resolve_left hne, h4⟩
  · rintro ⟨h1, h2, h3⟩
    exact ⟨⟨h1, by omega⟩, .inr h2, h3⟩
theorem ticks_snoc (m : Int) (j : Nat) : ticks m (m + (j + 1 : Nat)) = ticks m (m + j) ++ [m + j] := by
  unfold ticks
  rw [show (m + ((j + 1 : Nat) : Int) - m).toNat = j + 1 by omega, show (m + (j : Int) - m).toNat = j by omega, List.range_succ, List.map_append]; rfl
end Go.Proofs.Ytglekfgoadehbaa.V
end
section
namespace Go.Proofs.Ytglekfgoadehbaa.V
open Go Go.Proofs
def v_liveryref15_Into : VFn := ⟨.seq (.reg [⟨some 7, .box (.t 3), none, [], []⟩,
 ⟨some 8, .mov (.c (.bool false)), none, [], []⟩])
(.seq (.reg [⟨some 11, .mov (.t 1), none, [], []⟩,
 ⟨some 12, .bsl 1 [(.t 11)], none, [0], []⟩,
 ⟨some 13, .mov (.t 0), none, [], []⟩,
 ⟨some 14, .call 110 [(.t 13)], none, [2], []⟩,
 ⟨some 15, .app 1 8 (.t 12) (.t 14), none, [1, 3, 3], []⟩,
 ⟨some 9, .mov (.t 15), none, [4, 4, 0, 1, 2, 3, 4], []⟩])
(.seq (.seq (.reg [⟨some 10, .mov (.c (.int .i64 0)), none, [], []⟩])
(.block 0
 (.loop
 (.seq (.seq (.reg [⟨some 16, .mov (.t 10), none, [], []⟩,
 ⟨some 17, .mov (.t 9), none, [], []⟩,
 ⟨some 18, .len (.t 17), none, [1], []⟩,
 ⟨some 19, .bin .lss (.t 16) (.t 18), none, [0, 2], []⟩])
 (.cond (.t 19)
 (.skip)
 (.exit 0)))
 (.seq (.block 1
 (.seq (.dreg [⟨some 22, .mov (.t 9), none, [], []⟩,
 ⟨some 23, .mov (.t 10), none, [], []⟩,
 ⟨some 24, .iad 1 (.t 22) (.t 23), none, [0, 1], []⟩,
 ⟨some 25, .load 1 false (.t 24), none, [2], []⟩,
 ⟨some 26, .mov (.t 1), none, [], []⟩,
 ⟨some 27, .bin .geq (.t 25) (.t 26), none, [3, 4], []⟩,
 ⟨some 28, .mov (.t 27), none, [5], []⟩,
 ⟨some 29, .mov (.t 9), some (28, true), [6], []⟩,
 ⟨some 30, .mov (.t 10), some (28, true), [6], []⟩,
 ⟨some 31, .iad 1 (.t 29) (.t 30), some (28, true), [7, 8, 6], []⟩,
 ⟨some 32, .load 1 false (.t 31), some (28, true), [9, 6], []⟩,
 ⟨some 33, .mov (.t 1), some (28, true), [6], []⟩,
 ⟨some 34, .mov (.t 2), some (28, true), [6], []⟩,
 ⟨some 35, .bin .add (.t 33) (.t 34), some (28, true), [11, 12, 6], []⟩,
 ⟨some 36, .bin .lss (.t 32) (.t 35), some (28, true), [10, 13, 6], []⟩,
 ⟨some 37, .pick (.t 28) (.t 36) (.c (.bool false)), none, [6, 14], []⟩,
 ⟨some 38, .mov (.t 37), none, [15, 6], []⟩,
 ⟨some 39, .load 2 true (.t 7), some (38, true), [16], []⟩,
 ⟨some 40, .mov (.t 0), some (38, true), [16], []⟩,
 ⟨some 41, .mov (.t 9), some (38, true), [16], []⟩,
 ⟨some 42, .mov (.t 10), some (38, true), [16], []⟩,
 ⟨some 43, .iad 1 (.t 41) (.t 42), some (38, true), [19, 20, 16], []⟩,
 ⟨some 44, .load 1 false (.t 43), some (38, true), [21, 16], []⟩,
 ⟨some 45, .call 112 [(.t 40), (.t 44)], some (38, true), [18, 22, 16, 16], []⟩,
 ⟨some 46, .call 111 [(.t 39), (.t 45)], some (38, true), [17, 23, 23, 16], [(0, 0)]⟩,
 ⟨some 47, .un .not (.t 46), some (38, true), [24, 16], []⟩,
 ⟨some 48, .pick (.t 38) (.t 47) (.c (.bool false)), none, [16, 25], []⟩])
 (.cond (.t 48)
 (.seq (.reg [⟨some 8, .mov (.c (.bool false)), none, [], []⟩])
 (.ret))
 (.skip))))
 (.reg [⟨some 20, .mov (.t 10), none, [], []⟩,
 ⟨some 21, .bin .add (.t 20) (.c (.int .i64 1)), none, [0], []⟩,
 ⟨some 10, .mov (.t 21), none, [1, 0, 1], []⟩]))))))
(.seq (.reg [⟨some 8, .mov (.c (.bool true)), none, [], []⟩])
(.ret)))),
[.t 8], 49⟩
theorem v_liveryref15_Into_ok : compF Try.prog 86 = some v_liveryref15_Into := by kernel_rfl
end Go.Proofs.Ytglekfgoadehbaa.V
end
section
namespace Go.Proofs.Ytglekfgoadehbaa.V
open Go Go.Proofs
set_option maxRecDepth 100000
set_option maxHeartbeats 4000000
def intoP (f : List Seg) (t d : Int) (v : Vec) (s : Int) : Bool := !((decide (t ≤ s) && decide (s < t + d)) && !leW v (atF f s))
theorem Into_15 (f : List Seg) (hf : f.length ≤ 1000000) (tk : Tok) (t d : Int) (v : Vec) (hw : IntKind.i64.wrap (t + d) = t + d) : VPure Try.prog 86 [.sl (f.map Seg.a) tk, .int .i64 t, .int .i64 d, .agg [.int .i64 v.m, .int .i64 v.c]] (.bool (intoF f t d v)) := by
  refine VPure.of v_liveryref15_Into_ok (Nat.le_of_ble_eq_true rfl) (fun Z st => ?_)
  have hW := (When_2 f (by omega) tk).pure
  have HI : Hid (intoF f t d v = (t :: f.map (·.t)).all (intoP f t d v)) := ⟨rfl⟩
  obtain ⟨ts, hts⟩ : ∃ ts, t :: f.map (·.t) = ts := ⟨_, rfl⟩
  have hE : AV.int .i64 t :: f.map (fun x => num x.t) = ts.map num := by rw [← hts, List.map_cons, List.map_map]; rfl
  have hl : ts.length ≤ 1000001 := by rw [← hts]; simp; omega
  rw [hts] at HI
  obtain ⟨b, hb⟩ : ∃ b, intoF f t d v = b := ⟨_, rfl⟩
  rw [hb] at HI ⊢
  have hA := Hid.mk fun s => At_2 f (by omega) tk s
  clear hts hb
  simp only [v_liveryref15_Into, ↓vD, vU, ↓vMd, vMu, vZ, seval, k_app, k_slc1]
  (repeat' (first | (simp (maxDischargeDepth := 16) only [*, vX, ↓vD, vU, ↓vMd, vMu, vZ, seval]) | (simp (disch := first | assumption | omega | rfl | exact fun _ => rfl) only [vP]) | ((with_reducible first | apply gsnd | apply csnd | apply gsd | apply csd | apply gsn | apply csn | apply gs | apply cs_) <;> intro _) | (with_reducible refine objQ_i (fun _ _ => ?_); repeat with_reducible refine imp_i (fun _ => ?_)) | ((try with_reducible refine appK_a ?_); first | (with_reducible refine appD_F (by refine ⟨?_, ?_, ?_, ?_⟩ <;> (first | assumption | omega | exact St.has_add (by assumption) | (simp only [ins_has]; exact St.has_add (by assumption)) | (simp only [ins_has, fresh_ins, kill_ins, add_ins] at *; exact St.has_add (by assumption)) | (simp only [*, ins_has, has_full, St.has_add]; done) | (simp [-List.map_take, -List.map_drop, or_imp, forall_and, Seg.a, Vec.a, Leg.a, num, okEl, cells_agg, cells_int, cells_sl, cells_bool, AV.isCell]; done) | (simp; omega))) (fun _ _ => ?_)) | (with_reducible refine appD_V (by refine ⟨?_, ?_, ?_, ?_, ?_⟩ <;> (first | assumption | omega | exact St.has_add (by assumption) | (simp only [ins_has]; exact St.has_add (by assumption)) | (simp only [ins_has, fresh_ins, kill_ins, add_ins] at *; exact St.has_add (by assumption)) | (simp only [*, ins_has, has_full, St.has_add]; done) | (simp [-List.map_take, -List.map_drop, or_imp, forall_and, Seg.a, Vec.a, Leg.a, num, okEl, cells_agg, cells_int, cells_sl, cells_bool, AV.isCell]; done) | (simp; omega))) (fun _ _ => ?_))) | (with_reducible refine freshQ_i (fun _ _ => ?_)) | (with_reducible first | refine callH_use (hW) ?_ | refine pureQ_use (hW) ?_)))
  refine loopp_of (len := ts.length) (by simp only [asgL, dsts, List.cons_append, List.nil_append, List.append_nil]; rfl) (by simp only [noR, Bool.and_true, Bool.and_false]; rfl) (by omega) (fun k fr => fr.t 10 = .int .i64 k ∧ Hid ((ts.take k).all (intoP f t d v) = true)) ?_ ?_ ?_
  · exact ⟨by simp [↓vD, vU, ↓vMd, vMu, vZ, seval, k_app, k_slc1], ⟨rfl⟩⟩
  · rintro k fr hk hwk hfr hd ⟨h10, HK⟩
    obtain ⟨s, hs⟩ : ∃ s, ts[k] = s := ⟨_, rfl⟩
    have hnx : (ts.take (k + 1)).all (intoP f t d v) = intoP f t d v s := by
      rw [List.take_add_one, List.getElem?_eq_getElem hk, hs, List.all_append, HK.out]; simp
    have hno : intoP f t d v s = false → b = false := fun h => by
      rw [HI.out, List.all_eq_false]
      exact ⟨s, by rw [← hs]; exact List.getElem_mem _, by rw [h]; simp⟩
    rw [hnx]
    have hAt := hA.out s
    have hL := LE_1 v.m v.c (atF f s).m (atF f s).c
    have HP : Hid (intoP f t d v s = !((decide (t ≤ s) && decide (s < t + d)) && !(decide (v.m ≤ (atF f s).m) && decide (v.c ≤ (atF f s).c)))) := ⟨rfl⟩
    obtain ⟨c, hc⟩ : ∃ c, (decide (v.m ≤ (atF f s).m) && decide (v.c ≤ (atF f s).c)) = c := ⟨_, rfl⟩
    rw [hc] at hL HP
    obtain ⟨p, hp⟩ : ∃ p, intoP f t d v s = p := ⟨_, rfl⟩
    rw [hp] at HP hno ⊢
    have HN := Hid.mk hno
    clear hnx hno hc hp HK HI
    by_cases q1 : t ≤ s
    · by_cases q2 : s < t + d
      · cases c
        · obtain rfl : p = false := by rw [HP.out]; simp [q1, q2]
          obtain rfl : b = false := HN.out rfl
          clear HP HN
          (repeat' (first | (simp (maxDischargeDepth := 16) only [*, num, vX, ↓vD, vU, ↓vMd, vMu, vZ, seval]) | (simp (disch := first | assumption | omega | rfl | exact fun _ => rfl) only [num, vP]) | ((with_reducible first | apply gsnd | apply csnd | apply gsd | apply csd | apply gsn | apply csn | apply gs | apply cs_) <;> intro _) | (with_reducible refine objQ_i (fun _ _ => ?_); repeat with_reducible refine imp_i (fun _ => ?_)) | ((try with_reducible refine appK_a ?_); first | (with_reducible refine appD_F (by refine ⟨?_, ?_, ?_, ?_⟩ <;> (first | assumption | omega | exact St.has_add (by assumption) | (simp only [ins_has]; exact St.has_add (by assumption)) | (simp only [ins_has, fresh_ins, kill_ins, add_ins] at *; exact St.has_add (by assumption)) | (simp only [*, ins_has, has_full, St.has_add]; done) | (simp [-List.map_take, -List.map_drop, or_imp, forall_and, Seg.a, Vec.a, Leg.a, num, okEl, cells_agg, cells_int, cells_sl, cells_bool, AV.isCell]; done) | (simp; omega))) (fun _ _ => ?_)) | (with_reducible refine appD_V (by refine ⟨?_, ?_, ?_, ?_, ?_⟩ <;> (first | assumption | omega | exact St.has_add (by assumption) | (simp only [ins_has]; exact St.has_add (by assumption)) | (simp only [ins_has, fresh_ins, kill_ins, add_ins] at *; exact St.has_add (by assumption)) | (simp only [*, ins_has, has_full, St.has_add]; done) | (simp [-List.map_take, -List.map_drop, or_imp, forall_and, Seg.a, Vec.a, Leg.a, num, okEl, cells_agg, cells_int, cells_sl, cells_bool, AV.isCell]; done) | (simp; omega))) (fun _ _ => ?_))) | (with_reducible refine freshQ_i (fun _ _ => ?_)) | (with_reducible first | refine callH_use (hAt) ?_ | refine pureQ_use (hAt) ?_) | (with_reducible first | refine callH_use (hL) ?_ | refine pureQ_use (hL) ?_)))
          ((try clear hfr); (try clear hfr2); (try clear hfr3); (try clear hf); (try clear hf2); (try clear hd); (try clear hd2); (try clear hd3); (try simp only [fresh_ins, kill_ins, add_ins] at *); (repeat' (first | exact St.le.refl _ | (with_reducible refine le_ins_new ?_ _ (by assumption)) | (with_reducible refine St.le.trans ?_ (add_kill_le (by assumption))) | (with_reducible refine le_add_t _ ?_))))
        · obtain rfl : p = true := by rw [HP.out]; simp
          clear HP HN
          (repeat' (first | (simp (maxDischargeDepth := 16) only [*, num, vX, ↓vD, vU, ↓vMd, vMu, vZ, seval]) | (simp (disch := first | assumption | omega | rfl | exact fun _ => rfl) only [num, vP]) | ((with_reducible first | apply gsnd | apply csnd | apply gsd | apply csd | apply gsn | apply csn | apply gs | apply cs_) <;> intro _) | (with_reducible refine objQ_i (fun _ _ => ?_); repeat with_reducible refine imp_i (fun _ => ?_)) | ((try with_reducible refine appK_a ?_); first | (with_reducible refine appD_F (by refine ⟨?_, ?_, ?_, ?_⟩ <;> (first | assumption | omega | exact St.has_add (by assumption) | (simp only [ins_has]; exact St.has_add (by assumption)) | (simp only [ins_has, fresh_ins, kill_ins, add_ins] at *; exact St.has_add (by assumption)) | (simp only [*, ins_has, has_full, St.has_add]; done) | (simp [-List.map_take, -List.map_drop, or_imp, forall_and, Seg.a, Vec.a, Leg.a, num, okEl, cells_agg, cells_int, cells_sl, cells_bool, AV.isCell]; done) | (simp; omega))) (fun _ _ => ?_)) | (with_reducible refine appD_V (by refine ⟨?_, ?_, ?_, ?_, ?_⟩ <;> (first | assumption | omega | exact St.has_add (by assumption) | (simp only [ins_has]; exact St.has_add (by assumption)) | (simp only [ins_has, fresh_ins, kill_ins, add_ins] at *; exact St.has_add (by assumption)) | (simp only [*, ins_has, has_full, St.has_add]; done) | (simp [-List.map_take, -List.map_drop, or_imp, forall_and, Seg.a, Vec.a, Leg.a, num, okEl, cells_agg, cells_int, cells_sl, cells_bool, AV.isCell]; done) | (simp; omega))) (fun _ _ => ?_))) | (with_reducible refine freshQ_i (fun _ _ => ?_)) | (with_reducible first | refine callH_use (hAt) ?_ | refine pureQ_use (hAt) ?_) | (with_reducible first | refine callH_use (hL) ?_ | refine pureQ_use (hL) ?_)))
          all_goals first | done | exact ⟨trivial⟩ | trace_state
      · obtain rfl : p = true := by rw [HP.out]; simp [q2]
        clear HP HN
        (repeat' (first | (simp (maxDischargeDepth := 16) only [*, num, vX, ↓vD, vU, ↓vMd, vMu, vZ, seval]) | (simp (disch := first | assumption | omega | rfl | exact fun _ => rfl) only [num, vP]) | ((with_reducible first | apply gsnd | apply csnd | apply gsd | apply csd | apply gsn | apply csn | apply gs | apply cs_) <;> intro _) | (with_reducible refine objQ_i (fun _ _ => ?_); repeat with_reducible refine imp_i (fun _ => ?_)) | ((try with_reducible refine appK_a ?_); first | (with_reducible refine appD_F (by refine ⟨?_, ?_, ?_, ?_⟩ <;> (first | assumption | omega | exact St.has_add (by assumption) | (simp only [ins_has]; exact St.has_add (by assumption)) | (simp only [ins_has, fresh_ins, kill_ins, add_ins] at *; exact St.has_add (by assumption)) | (simp only [*, ins_has, has_full, St.has_add]; done) | (simp [-List.map_take, -List.map_drop, or_imp, forall_and, Seg.a, Vec.a, Leg.a, num, okEl, cells_agg, cells_int, cells_sl, cells_bool, AV.isCell]; done) | (simp; omega))) (fun _ _ => ?_)) | (with_reducible refine appD_V (by refine ⟨?_, ?_, ?_, ?_, ?_⟩ <;> (first | assumption | omega | exact St.has_add (by assumption) | (simp only [ins_has]; exact St.has_add (by assumption)) | (simp only [ins_has, fresh_ins, kill_ins, add_ins] at *; exact St.has_add (by assumption)) | (simp only [*, ins_has, has_full, St.has_add]; done) | (simp [-List.map_take, -List.map_drop, or_imp, forall_and, Seg.a, Vec.a, Leg.a, num, okEl, cells_agg, cells_int, cells_sl, cells_bool, AV.isCell]; done) | (simp; omega))) (fun _ _ => ?_))) | (with_reducible refine freshQ_i (fun _ _ => ?_)) | (with_reducible first | refine callH_use (hAt) ?_ | refine pureQ_use (hAt) ?_) | (with_reducible first | refine callH_use (hL) ?_ | refine pureQ_use (hL) ?_)))
        all_goals first | done | exact ⟨trivial⟩ | trace_state
    · obtain rfl : p = true := by rw [HP.out]; simp [q1]
      clear HP HN
      (repeat' (first | (simp (maxDischargeDepth := 16) only [*, num, vX, ↓vD, vU, ↓vMd, vMu, vZ, seval]) | (simp (disch := first | assumption | omega | rfl | exact fun _ => rfl) only [num, vP]) | ((with_reducible first | apply gsnd | apply csnd | apply gsd | apply csd | apply gsn | apply csn | apply gs | apply cs_) <;> intro _) | (with_reducible refine objQ_i (fun _ _ => ?_); repeat with_reducible refine imp_i (fun _ => ?_)) | ((try with_reducible refine appK_a ?_); first | (with_reducible refine appD_F (by refine ⟨?_, ?_, ?_, ?_⟩ <;> (first | assumption | omega | exact St.has_add (by assumption) | (simp only [ins_has]; exact St.has_add (by assumption)) | (simp only [ins_has, fresh_ins, kill_ins, add_ins] at *; exact St.has_add (by assumption)) | (simp only [*, ins_has, has_full, St.has_add]; done) | (simp [-List.map_take, -List.map_drop, or_imp, forall_and, Seg.a, Vec.a, Leg.a, num, okEl, cells_agg, cells_int, cells_sl, cells_bool, AV.isCell]; done) | (simp; omega))) (fun _ _ => ?_)) | (with_reducible refine appD_V (by refine ⟨?_, ?_, ?_, ?_, ?_⟩ <;> (first | assumption | omega | exact St.has_add (by assumption) | (simp only [ins_has]; exact St.has_add (by assumption)) | (simp only [ins_has, fresh_ins, kill_ins, add_ins] at *; exact St.has_add (by assumption)) | (simp only [*, ins_has, has_full, St.has_add]; done) | (simp [-List.map_take, -List.map_drop, or_imp, forall_and, Seg.a, Vec.a, Leg.a, num, okEl, cells_agg, cells_int, cells_sl, cells_bool, AV.isCell]; done) | (simp; omega))) (fun _ _ => ?_))) | (with_reducible refine freshQ_i (fun _ _ => ?_)) | (with_reducible first | refine callH_use (hAt) ?_ | refine pureQ_use (hAt) ?_) | (with_reducible first | refine callH_use (hL) ?_ | refine pureQ_use (hL) ?_)))
      all_goals first | done | exact ⟨trivial⟩ | trace_state
  · rintro fr hfr hd ⟨h10, HK⟩
    rw [List.take_length] at HK
    obtain rfl : b = true := by rw [HI.out]; exact HK.out
    (repeat' (first | (simp (maxDischargeDepth := 16) only [*, vX, ↓vD, vU, ↓vMd, vMu, vZ, seval]) | (simp (disch := first | assumption | omega | rfl | exact fun _ => rfl) only [vP]) | ((with_reducible first | apply gsnd | apply csnd | apply gsd | apply csd | apply gsn | apply csn | apply gs | apply cs_) <;> intro _) | (with_reducible refine objQ_i (fun _ _ => ?_); repeat with_reducible refine imp_i (fun _ => ?_)) | ((try with_reducible refine appK_a ?_); first | (with_reducible refine appD_F (by refine ⟨?_, ?_, ?_, ?_⟩ <;> (first | assumption | omega | exact St.has_add (by assumption) | (simp only [ins_has]; exact St.has_add (by assumption)) | (simp only [ins_has, fresh_ins, kill_ins, add_ins] at *; exact St.has_add (by assumption)) | (simp only [*, ins_has, has_full, St.has_add]; done) | (simp [-List.map_take, -List.map_drop, or_imp, forall_and, Seg.a, Vec.a, Leg.a, num, okEl, cells_agg, cells_int, cells_sl, cells_bool, AV.isCell]; done) | (simp; omega))) (fun _ _ => ?_)) | (with_reducible refine appD_V (by refine ⟨?_, ?_, ?_, ?_, ?_⟩ <;> (first | assumption | omega | exact St.has_add (by assumption) | (simp only [ins_has]; exact St.has_add (by assumption)) | (simp only [ins_has, fresh_ins, kill_ins, add_ins] at *; exact St.has_add (by assumption)) | (simp only [*, ins_has, has_full, St.has_add]; done) | (simp [-List.map_take, -List.map_drop, or_imp, forall_and, Seg.a, Vec.a, Leg.a, num, okEl, cells_agg, cells_int, cells_sl, cells_bool, AV.isCell]; done) | (simp; omega))) (fun _ _ => ?_))) | (with_reducible refine freshQ_i (fun _ _ => ?_))))
    ((try clear hfr); (try clear hfr2); (try clear hfr3); (try clear hf); (try clear hf2); (try clear hd); (try clear hd2); (try clear hd3); (try simp only [fresh_ins, kill_ins, add_ins] at *); (repeat' (first | exact St.le.refl _ | (with_reducible refine le_ins_new ?_ _ (by assumption)) | (with_reducible refine St.le.trans ?_ (add_kill_le (by assumption))) | (with_reducible refine le_add_t _ ?_))))
theorem MayB_16 (f : List Seg) (hf : f.length ≤ 1000000) (tk : Tok) (w : Vec) (l : List Leg) (hl : l.length ≤ 20) (hd0 : ∀ x ∈ l, 1 ≤ x.d ∧ x.d ≤ 4096) (tk' : Tok) (t : Int) (ht : -2199023255552 ≤ t ∧ t ≤ 2199023255552) : VPure Try.prog 55 [.sl (f.map Seg.a) tk, .agg [.int .i64 w.m, .int .i64 w.c], .sl (l.map Leg.a) tk', .int .i64 t] (.bool (mayR f w l t)) := by
  obtain ⟨t1, t2⟩ := ht
  refine VPure.of v_liveryref16_May_ok (Nat.le_of_ble_eq_true rfl) (fun Z st => ?_)
  unfold mayR
  have hI := Hid.mk fun u d v hw => Into_15 f hf tk u d v hw
  have HD := Hid.mk hd0
  obtain ⟨b, hb⟩ : ∃ b, allI f w l t = b := ⟨_, rfl⟩
  rw [hb]
  have HB := Hid.mk hb
  clear hb hd0
  simp only [v_liveryref16_May, ↓vD, vU, ↓vMd, vMu, vZ, seval, k_app, k_slc1]
  by_cases h0 : t < w.m
  · (repeat' (first | (simp (maxDischargeDepth := 16) only [*, vX, ↓vD, vU, ↓vMd, vMu, vZ, seval]) | (simp (disch := first | assumption | omega | rfl | exact fun _ => rfl) only [vP]) | ((with_reducible first | apply gsnd | apply csnd | apply gsd | apply csd | apply gsn | apply csn | apply gs | apply cs_) <;> intro _) | (with_reducible refine objQ_i (fun _ _ => ?_); repeat with_reducible refine imp_i (fun _ => ?_))))
  have hm : decide (w.m ≤ t) = true := by simp; omega
  rw [hm, Bool.true_and]
  clear hm
  (repeat' (first | (simp (maxDischargeDepth := 16) only [*, vX, ↓vD, vU, ↓vMd, vMu, vZ, seval]) | (simp (disch := first | assumption | omega | rfl | exact fun _ => rfl) only [vP]) | ((with_reducible first | apply gsnd | apply csnd | apply gsd | apply csd | apply gsn | apply csn | apply gs | apply cs_) <;> intro _) | (with_reducible refine objQ_i (fun _ _ => ?_); repeat with_reducible refine imp_i (fun _ => ?_))))
  refine loopp_of (len := l.length) (by simp only [asgL, dsts, List.cons_append, List.nil_append, List.append_nil]; rfl) (by simp only [noR, Bool.and_true, Bool.and_false]; rfl) (by omega) (fun i fr => ∃ u, fr.t 9 = .int .i64 i ∧ fr.t 3 = .int .i64 u ∧ t ≤ u ∧ u ≤ t + 4096 * i ∧ Hid (allI f w (l.drop i) u = b)) ?_ ?_ ?_
  · exact ⟨t, by simp [↓vD, vU, ↓vMd, vMu, vZ, seval, k_app, k_slc1], by simp [↓vD, vU, ↓vMd, vMu, vZ, seval, k_app, k_slc1], by omega, by omega, HB⟩
  · rintro i fr hi hwi hfr hd ⟨u, h9, h3, hu1, hu2, HU⟩
    obtain ⟨x, hx⟩ : ∃ x, l[i] = x := ⟨_, rfl⟩
    have hxd := HD.out x (by rw [← hx]; exact List.getElem_mem _)
    have hwu : IntKind.i64.wrap (u + x.d) = u + x.d := wrap_i64 _ (by omega) (by omega)
    have hIn := hI.out u x.d x.v hwu
    have hN : (decide (u + x.d ≤ w.c) && intoF f u x.d x.v && allI f w (l.drop (i + 1)) (u + x.d)) = b := by rw [← HU.out, List.drop_eq_getElem_cons hi, hx, allI]
    obtain ⟨c, hc⟩ : ∃ c, intoF f u x.d x.v = c := ⟨_, rfl⟩
    rw [hc] at hIn hN
    have HN := Hid.mk hN
    clear hN hc HU HB
    by_cases q1 : w.c < u + x.d
    · have q1' : decide (u + x.d ≤ w.c) = false := by simp; omega
      obtain rfl : b = false := by rw [← HN.out, q1']; rfl
      clear HN q1'
      (repeat' (first | (simp (maxDischargeDepth := 16) only [*, Leg.a, vX, ↓vD, vU, ↓vMd, vMu, vZ, seval]) | (simp (disch := first | assumption | omega | rfl | exact fun _ => rfl) only [Leg.a, vP]) | ((with_reducible first | apply gsnd | apply csnd | apply gsd | apply csd | apply gsn | apply csn | apply gs | apply cs_) <;> intro _) | (with_reducible refine objQ_i (fun _ _ => ?_); repeat with_reducible refine imp_i (fun _ => ?_)) | (with_reducible first | refine callH_use (hIn) ?_ | refine pureQ_use (hIn) ?_)))
    · have q1' : decide (u + x.d ≤ w.c) = true := by simp; omega
      cases c
      · obtain rfl : b = false := by rw [← HN.out, q1']; rfl
        clear HN q1'
        (repeat' (first | (simp (maxDischargeDepth := 16) only [*, Leg.a, vX, ↓vD, vU, ↓vMd, vMu, vZ, seval]) | (simp (disch := first | assumption | omega | rfl | exact fun _ => rfl) only [Leg.a, vP]) | ((with_reducible first | apply gsnd | apply csnd | apply gsd | apply csd | apply gsn | apply csn | apply gs | apply cs_) <;> intro _) | (with_reducible refine objQ_i (fun _ _ => ?_); repeat with_reducible refine imp_i (fun _ => ?_)) | (with_reducible first | refine callH_use (hIn) ?_ | refine pureQ_use (hIn) ?_)))
      · have HN2 : Hid (allI f w (l.drop (i + 1)) (u + x.d) = b) := ⟨by rw [← HN.out, q1']; rfl⟩
        clear HN q1'
        (repeat' (first | (simp (maxDischargeDepth := 16) only [*, Leg.a, vX, ↓vD, vU, ↓vMd, vMu, vZ, seval]) | (simp (disch := first | assumption | omega | rfl | exact fun _ => rfl) only [Leg.a, vP]) | ((with_reducible first | apply gsnd | apply csnd | apply gsd | apply csd | apply gsn | apply csn | apply gs | apply cs_) <;> intro _) | (with_reducible refine objQ_i (fun _ _ => ?_); repeat with_reducible refine imp_i (fun _ => ?_)) | (with_reducible first | refine callH_use (hIn) ?_ | refine pureQ_use (hIn) ?_)))
        exact ⟨_, rfl, by omega, by omega, HN2⟩
  · rintro fr hfr hd ⟨u, h9, h3, hu1, hu2, HU⟩
    rw [List.drop_length] at HU
    obtain rfl : b = true := by rw [← HU.out]; rfl
    (repeat' (first | (simp (maxDischargeDepth := 16) only [*, vX, ↓vD, vU, ↓vMd, vMu, vZ, seval]) | (simp (disch := first | assumption | omega | rfl | exact fun _ => rfl) only [vP]) | ((with_reducible first | apply gsnd | apply csnd | apply gsd | apply csd | apply gsn | apply csn | apply gs | apply cs_) <;> intro _) | (with_reducible refine objQ_i (fun _ _ => ?_); repeat with_reducible refine imp_i (fun _ => ?_))))
theorem All_16 (f : List Seg) (hf : f.length ≤ 1000000) (tk : Tok) (w : Vec) (hw : -1099511627776 ≤ w.m ∧ w.m < w.c ∧ w.c ≤ 1099511627776 ∧ w.c - w.m ≤ 4096) (l : List Leg) (hl : l.length ≤ 20) (hd0 : ∀ x ∈ l, 1 ≤ x.d ∧ x.d ≤ 4096) (tk' : Tok) : VPure Try.prog 30 [.sl (f.map Seg.a) tk, .agg [.int .i64 w.m, .int .i64 w.c], .sl (l.map Leg.a) tk'] (.sl ((allR f w l).map num) .no) := by
  obtain ⟨w1, w2, w3, w4⟩ := hw
  refine VPure.tok (fun Z st => ?_)
  have hM := Hid.mk fun t ht => MayB_16 f hf tk w l hl hd0 tk' t ht
  obtain ⟨n, hn⟩ : ∃ n : Nat, w.c = w.m + n := ⟨(w.c - w.m).toNat, by omega⟩
  have HN := Hid.mk hn
  have hn4 : n ≤ 4096 := by omega
  clear hn
  refine VCalls.of v_liveryref16_All_ok (Nat.le_of_ble_eq_true rfl) ?_
  simp only [v_liveryref16_All, ↓vD, vU, ↓vMd, vMu, vZ, seval, k_app, k_slc1]
  (repeat' (first | (simp (maxDischargeDepth := 16) only [*, vX, ↓vD, vU, ↓vMd, vMu, vZ, seval]) | (simp (disch := first | assumption | omega | rfl | exact fun _ => rfl) only [vP]) | ((with_reducible first | apply gsnd | apply csnd | apply gsd | apply csd | apply gsn | apply csn | apply gs | apply cs_) <;> intro _) | (with_reducible refine objQ_i (fun _ _ => ?_); repeat with_reducible refine imp_i (fun _ => ?_)) | ((try with_reducible refine appK_a ?_); first | (with_reducible refine appD_F (by refine ⟨?_, ?_, ?_, ?_⟩ <;> (first | assumption | omega | exact St.has_add (by assumption) | (simp only [ins_has]; exact St.has_add (by assumption)) | (simp only [ins_has, fresh_ins, kill_ins, add_ins] at *; exact St.has_add (by assumption)) | (simp only [*, ins_has, has_full, St.has_add]; done) | (simp [-List.map_take, -List.map_drop, or_imp, forall_and, Seg.a, Vec.a, Leg.a, num, okEl, cells_agg, cells_int, cells_sl, cells_bool, AV.isCell]; done) | (simp; omega))) (fun _ _ => ?_)) | (with_reducible refine appD_V (by refine ⟨?_, ?_, ?_, ?_, ?_⟩ <;> (first | assumption | omega | exact St.has_add (by assumption) | (simp only [ins_has]; exact St.has_add (by assumption)) | (simp only [ins_has, fresh_ins, kill_ins, add_ins] at *; exact St.has_add (by assumption)) | (simp only [*, ins_has, has_full, St.has_add]; done) | (simp [-List.map_take, -List.map_drop, or_imp, forall_and, Seg.a, Vec.a, Leg.a, num, okEl, cells_agg, cells_int, cells_sl, cells_bool, AV.isCell]; done) | (simp; omega))) (fun _ _ => ?_))) | (with_reducible refine freshQ_i (fun _ _ => ?_))))
  rename_i b4 h4
  refine loopf_of (len := n) (by simp only [asgL, dsts, List.cons_append, List.nil_append, List.append_nil]; rfl) (by simp only [noR, Bool.and_true, Bool.and_false]; rfl) (by omega) (fun j fr s => ∃ acc tk2 S, s = S.ins b4 (.cells [.int .i64 w.m, .int .i64 w.c]) ∧ Ours 1 st S tk2 ∧ fr.t 8 = .int .i64 (w.m + j) ∧ fr.t 7 = .sl (acc.map num) tk2 ∧ Hid (acc = (ticks w.m (w.m + j)).filter (allI f w l)) ∧ acc.length ≤ j) ?_ ?_ ?_
  · exact ⟨[], .full, st, rfl, Ours.full 1 st, by simp [↓vD, vU, ↓vMd, vMu, vZ, seval, k_app, k_slc1], by simp [↓vD, vU, ↓vMd, vMu, vZ, seval, k_app, k_slc1], ⟨by rw [ticks_nil (by omega)]; rfl⟩, by simp⟩
  · rintro j fr s hj hwj hfr hd ⟨acc, tk2, S, rfl, ho, h8, h7, HA, hal⟩
    have hb4 : S.objs b4 = none := by rw [ho.objs]; exact h4
    have hts := ho.has
    obtain ⟨t, ht⟩ : ∃ t : Int, w.m + j = t := ⟨_, rfl⟩
    have htc : t < w.c := by have := HN.out; omega
    have hMt := hM.out t (by omega)
    have hnx : (ticks w.m (w.m + ((j + 1 : Nat) : Int))).filter (allI f w l) = acc ++ (if allI f w l t then [t] else []) := by
      rw [ticks_snoc, List.filter_append, ← HA.out, ht]
      congr 1
      cases h : allI f w l t <;> simp [h]
    have hmr : mayR f w l t = allI f w l t := by unfold mayR; rw [decide_eq_true (by omega), Bool.true_and]
    rw [hmr] at hMt
    rw [hnx]
    have htn : w.m + ((j + 1 : Nat) : Int) = t + 1 := by omega
    rw [htn]
    have hwt : IntKind.i64.wrap (t + 1) = t + 1 := wrap_i64 _ (by omega) (by omega)
    rw [ht] at h8
    obtain ⟨c, hc⟩ : ∃ c, allI f w l t = c := ⟨_, rfl⟩
    rw [hc] at hMt ⊢
    clear hnx hmr ht htn hc HA
    cases c
    · (repeat' (first | (simp (maxDischargeDepth := 16) only [*, vX, ↓vD, vU, ↓vMd, vMu, vZ, seval]) | (simp (disch := first | assumption | omega | rfl | exact fun _ => rfl) only [vP]) | ((with_reducible first | apply gsnd | apply csnd | apply gsd | apply csd | apply gsn | apply csn | apply gs | apply cs_) <;> intro _) | (with_reducible refine objQ_i (fun _ _ => ?_); repeat with_reducible refine imp_i (fun _ => ?_)) | ((try with_reducible refine appK_a ?_); first | (with_reducible refine appD_F (by refine ⟨?_, ?_, ?_, ?_⟩ <;> (first | assumption | omega | exact St.has_add (by assumption) | (simp only [ins_has]; exact St.has_add (by assumption)) | (simp only [ins_has, fresh_ins, kill_ins, add_ins] at *; exact St.has_add (by assumption)) | (simp only [*, ins_has, has_full, St.has_add]; done) | (simp [-List.map_take, -List.map_drop, or_imp, forall_and, Seg.a, Vec.a, Leg.a, num, okEl, cells_agg, cells_int, cells_sl, cells_bool, AV.isCell]; done) | (simp; omega))) (fun _ _ => ?_)) | (with_reducible refine appD_V (by refine ⟨?_, ?_, ?_, ?_, ?_⟩ <;> (first | assumption | omega | exact St.has_add (by assumption) | (simp only [ins_has]; exact St.has_add (by assumption)) | (simp only [ins_has, fresh_ins, kill_ins, add_ins] at *; exact St.has_add (by assumption)) | (simp only [*, ins_has, has_full, St.has_add]; done) | (simp [-List.map_take, -List.map_drop, or_imp, forall_and, Seg.a, Vec.a, Leg.a, num, okEl, cells_agg, cells_int, cells_sl, cells_bool, AV.isCell]; done) | (simp; omega))) (fun _ _ => ?_))) | (with_reducible refine freshQ_i (fun _ _ => ?_)) | (with_reducible first | refine callH_use (hMt) ?_ | refine pureQ_use (hMt) ?_)))
      exact ⟨_, St.le.refl _, acc, tk2, S, rfl, ho, rfl, ⟨by simp⟩, by omega⟩
    · (repeat' (first | (simp (maxDischargeDepth := 16) only [*, num, vX, ↓vD, vU, ↓vMd, vMu, vZ, seval]) | (simp (disch := first | assumption | omega | rfl | exact fun _ => rfl) only [num, vP]) | ((with_reducible first | apply gsnd | apply csnd | apply gsd | apply csd | apply gsn | apply csn | apply gs | apply cs_) <;> intro _) | (with_reducible refine objQ_i (fun _ _ => ?_); repeat with_reducible refine imp_i (fun _ => ?_)) | ((try with_reducible refine appK_a ?_); first | (with_reducible refine appD_F (by refine ⟨?_, ?_, ?_, ?_⟩ <;> (first | assumption | omega | exact St.has_add (by assumption) | (simp only [ins_has]; exact St.has_add (by assumption)) | (simp only [ins_has, fresh_ins, kill_ins, add_ins] at *; exact St.has_add (by assumption)) | (simp only [*, ins_has, has_full, St.has_add]; done) | (simp [-List.map_take, -List.map_drop, or_imp, forall_and, Seg.a, Vec.a, Leg.a, num, okEl, cells_agg, cells_int, cells_sl, cells_bool, AV.isCell]; done) | (simp; omega))) (fun _ _ => ?_)) | (with_reducible refine appD_V (by refine ⟨?_, ?_, ?_, ?_, ?_⟩ <;> (first | assumption | omega | exact St.has_add (by assumption) | (simp only [ins_has]; exact St.has_add (by assumption)) | (simp only [ins_has, fresh_ins, kill_ins, add_ins] at *; exact St.has_add (by assumption)) | (simp only [*, ins_has, has_full, St.has_add]; done) | (simp [-List.map_take, -List.map_drop, or_imp, forall_and, Seg.a, Vec.a, Leg.a, num, okEl, cells_agg, cells_int, cells_sl, cells_bool, AV.isCell]; done) | (simp; omega))) (fun _ _ => ?_))) | (with_reducible refine freshQ_i (fun _ _ => ?_)) | (with_reducible first | refine callH_use (hMt) ?_ | refine pureQ_use (hMt) ?_)))
      rename_i t1 hf1
      have ho3 := ho.next (t' := t1) (by simpa only [kill_ins, fresh_ins] using hf1)
      exact ⟨_, by (refine ⟨fun i o e => ?_, fun _ h => h⟩; revert e; simp only [St.ins, St.del, add_objs, kill_objs]; (repeat' split); all_goals (first | exact id | (intros; contradiction) | (intros; subst_vars; contradiction) | (intros; simp_all; done) | (intros; subst_vars; simp_all; done))), acc ++ [t], t1, _, rfl, ho3, by simp [num], ⟨by simp⟩, by simp; omega⟩
  · rintro fr s hfr hd ⟨acc, tk2, S, rfl, ho, h8, h7, HA, hal⟩
    have hb4 : S.objs b4 = none := by rw [ho.objs]; exact h4
    have hun := ho.under
    have hnc := HN.out.symm
    rw [hnc] at h8 HA
    clear hnc
    (repeat' (first | (simp (maxDischargeDepth := 16) only [*, vX, ↓vD, vU, ↓vMd, vMu, vZ, seval]) | (simp (disch := first | assumption | omega | rfl | exact fun _ => rfl) only [vP]) | ((with_reducible first | apply gsnd | apply csnd | apply gsd | apply csd | apply gsn | apply csn | apply gs | apply cs_) <;> intro _) | (with_reducible refine objQ_i (fun _ _ => ?_); repeat with_reducible refine imp_i (fun _ => ?_)) | ((try with_reducible refine appK_a ?_); first | (with_reducible refine appD_F (by refine ⟨?_, ?_, ?_, ?_⟩ <;> (first | assumption | omega | exact St.has_add (by assumption) | (simp only [ins_has]; exact St.has_add (by assumption)) | (simp only [ins_has, fresh_ins, kill_ins, add_ins] at *; exact St.has_add (by assumption)) | (simp only [*, ins_has, has_full, St.has_add]; done) | (simp [-List.map_take, -List.map_drop, or_imp, forall_and, Seg.a, Vec.a, Leg.a, num, okEl, cells_agg, cells_int, cells_sl, cells_bool, AV.isCell]; done) | (simp; omega))) (fun _ _ => ?_)) | (with_reducible refine appD_V (by refine ⟨?_, ?_, ?_, ?_, ?_⟩ <;> (first | assumption | omega | exact St.has_add (by assumption) | (simp only [ins_has]; exact St.has_add (by assumption)) | (simp only [ins_has, fresh_ins, kill_ins, add_ins] at *; exact St.has_add (by assumption)) | (simp only [*, ins_has, has_full, St.has_add]; done) | (simp [-List.map_take, -List.map_drop, or_imp, forall_and, Seg.a, Vec.a, Leg.a, num, okEl, cells_agg, cells_int, cells_sl, cells_bool, AV.isCell]; done) | (simp; omega))) (fun _ _ => ?_))) | (with_reducible refine freshQ_i (fun _ _ => ?_))))
    refine ⟨st, hun.trans (by (refine ⟨fun i o e => ?_, fun _ h => h⟩; revert e; simp only [St.ins, St.del, add_objs, kill_objs]; (repeat' split); all_goals (first | exact id | (intros; contradiction) | (intros; subst_vars; contradiction) | (intros; simp_all; done) | (intros; subst_vars; simp_all; done)))), tk2, ?_, rfl⟩
    rw [HA.out]; rfl
end Go.Proofs.Ytglekfgoadehbaa.V
end
section
namespace Go.Proofs.Ytglekfgoadehbaa.V
open Go Go.Proofs
set_option maxRecDepth 100000
set_option maxHeartbeats 4000000
theorem order17 {load f g : List Seg} {w v : Vec} {l : List Leg} {many : Int} (h : bestF load f w l many = 0) (hg : mayF g = true) (hv : ∀ s, w.m ≤ s → s < w.c → (atF g s).m = (atF load s).m + v.m ∧ (atF g s).c = (atF load s).c + v.c) :
    (bestF g f w l many = 10 ∨ bestF g f w l many = 0) ∧ bestL (costP g (lengthF l).1) (allT (beginsF f w l).1) = bestL (costP load (lengthF l).1) (allT (beginsF f w l).1) := by
  have B := best17 h
  have h0 : begE load f w l = 0 ∧ 1 ≤ many ∧ many ≤ 64 := ⟨B.beg, B.num⟩
  obtain ⟨h0, n1, n2⟩ := h0
  obtain ⟨k1, k2, k3, k4, hO, k6, k7⟩ := begE_0 h0
  refine ⟨?_, ?_⟩
  · have hb : begE g f w l = if g.any muchS then 10 else 0 := by
      unfold begE
      rw [if_pos hg, if_neg (by simp [k2]), if_neg k4]
    unfold bestF
    rw [hb, if_neg (by omega : ¬ (many < 1 ∨ 64 < many))]
    cases g.any muchS <;> simp
  · have h1 := check_1 hO
    have hlen : (lengthF l).1 = sumD l := by
      obtain ⟨_, _, e⟩ := length_ok (l := l) (by
        unfold checkF at h1
        split at h1
        · split at h1
          · simp at h1
          · rename_i hx; simp only [not_or, Decidable.not_not] at hx; exact hx.1
        · simp at h1)
      rw [e]
    refine bestL_congr (c := (lengthF l).1 * (v.m + v.c)) B.up (fun t ht => ?_)
    have hm := (begins_T hO t).1 (mem_allT.1 ht)
    exact costP_shift hv k6.1 hm.1 (by rw [hlen]; omega)
theorem none17 {load f : List Seg} {w : Vec} {l : List Leg} {many : Int} (h : bestF load f w l many = 0) : bestF [] f w l many = 0 ∧ bestL (costP [] (lengthF l).1) (allT (beginsF f w l).1) = allR f w l := by
  have B := best17 h
  have h0 : begE load f w l = 0 ∧ 1 ≤ many ∧ many ≤ 64 := ⟨B.beg, B.num⟩
  obtain ⟨h0, n1, n2⟩ := h0
  obtain ⟨k1, k2, k3, k4, hO, k6, k7⟩ := begE_0 h0
  refine ⟨?_, ?_⟩
  · have hb : begE [] f w l = 0 := by
      unfold begE
      rw [if_pos may_nil, if_neg (by simp [k2]), if_neg k4]; simp
    unfold bestF
    rw [hb, if_neg (by omega : ¬ (many < 1 ∨ 64 < many))]; simp
  · rw [allR_is hO]
    exact bestL_const B.up (fun t _ => costP_nil _ t)
theorem rangeR_len (f : List Seg) (a b : Int) (v : Vec) : (rangeR f a b v).1.length ≤ f.length + 2 := by
  unfold rangeR
  split
  · split
    · have h1 := doR_len 0 f (boxF2 a b v).1
      have h2 := boxF1_len a b v
      rw [box_same] at h2
      omega
    · simp
  · simp
theorem take_min (R : List Int) {many : Int} (h : 1 ≤ many) : R.take (min many (R.length : Int)).toNat = R.take many.toNat := by
  by_cases c : many ≤ R.length
  · rw [show min many (R.length : Int) = many by omega]
  · rw [show (min many (R.length : Int)).toNat = R.length by omega, List.take_length, List.take_of_length_le (by omega)]
theorem costOrder_v (x : Ask17) (hx : wfAsk17 x) (by_ : Int × Int) (hb : U8 by_.1 ∧ U8 by_.2) : VPure Try.prog 8 [x.a, .agg [.int .u8 by_.1, .int .u8 by_.2]] (.bool true) := by
  obtain ⟨load, f, w, l, many⟩ := x
  obtain ⟨⟨_, hl1⟩, ⟨_, hl2⟩, ⟨⟨w1, w2⟩, w3, w4⟩, ⟨_, hl3⟩, hm1, hm2⟩ := hx
  obtain ⟨b0, b1⟩ := by_
  obtain ⟨⟨hb1, hb2⟩, hb3, hb4⟩ := hb
  simp only at hl1 hl2 w1 w2 w3 w4 hl3 hm1 hm2 hb1 hb2 hb3 hb4
  simp only [Ask17.a]
  have hg := great_17 load hl1 f hl2 w l hl3 many .no .no .no
  refine VPure.of v_liverylaw17_CostOrder_ok (Nat.le_of_ble_eq_true rfl) (fun Z st => ?_)
  by_cases hgr : great17 load f w l = true
  · rw [hgr] at hg
    clear hgr
    simp only [v_liverylaw17_CostOrder, ↓vD, vU, ↓vMd, vMu, vZ, seval, k_app, k_slc1]
    (repeat' (first | (simp (maxDischargeDepth := 16) only [*, vX, ↓vD, vU, ↓vMd, vMu, vZ, seval]) | (simp (disch := first | assumption | omega | rfl | exact fun _ => rfl) only [vP]) | ((with_reducible first | apply gsnd | apply csnd | apply gsd | apply csd | apply gsn | apply csn | apply gs | apply cs_) <;> intro _) | (with_reducible refine objQ_i (fun _ _ => ?_); repeat with_reducible refine imp_i (fun _ => ?_)) | (with_reducible first | refine callH_use (hg) ?_ | refine pureQ_use (hg) ?_) | (with_reducible first | refine callH_use (head_17) ?_ | refine pureQ_use (head_17) ?_)))
  have hgf : great17 load f w l = false := by simpa using hgr
  rw [hgf] at hg
  have hlim : load.length ≤ 60 ∧ f.length ≤ 60 ∧ l.length ≤ 20 := by
    unfold great17 preG at hgf
    simp only [Bool.or_eq_false_iff, decide_eq_false_iff_not] at hgf
    omega
  clear hgr hgf hl1 hl2 hl3
  obtain ⟨hl1, hl2, hl3⟩ := hlim
  by_cases hwc : w.c ≤ w.m
  · simp only [v_liverylaw17_CostOrder, ↓vD, vU, ↓vMd, vMu, vZ, seval, k_app, k_slc1]
    (repeat' (first | (simp (maxDischargeDepth := 16) only [*, vX, ↓vD, vU, ↓vMd, vMu, vZ, seval]) | (simp (disch := first | assumption | omega | rfl | exact fun _ => rfl) only [vP]) | ((with_reducible first | apply gsnd | apply csnd | apply gsd | apply csd | apply gsn | apply csn | apply gs | apply cs_) <;> intro _) | (with_reducible refine objQ_i (fun _ _ => ?_); repeat with_reducible refine imp_i (fun _ => ?_)) | (with_reducible first | refine callH_use (hg) ?_ | refine pureQ_use (hg) ?_) | (with_reducible first | refine callH_use (head_17) ?_ | refine pureQ_use (head_17) ?_)))
  have hB := Best_v load (by omega) f (by omega) w w1 w4 l (by omega) many .no .no .no
  by_cases he : bestF load f w l many = 0
  case neg =>
    unfold bestA at hB
    rw [if_neg he] at hB
    obtain ⟨e, hE⟩ : ∃ e, bestF load f w l many = e := ⟨_, rfl⟩
    rw [hE] at hB he
    unfold num at hB
    clear hE
    simp only [v_liverylaw17_CostOrder, ↓vD, vU, ↓vMd, vMu, vZ, seval, k_app, k_slc1]
    (repeat' (first | (simp (maxDischargeDepth := 16) only [*, vX, ↓vD, vU, ↓vMd, vMu, vZ, seval]) | (simp (disch := first | assumption | omega | rfl | exact fun _ => rfl) only [vP]) | ((with_reducible first | apply gsnd | apply csnd | apply gsd | apply csd | apply gsn | apply csn | apply gs | apply cs_) <;> intro _) | (with_reducible refine objQ_i (fun _ _ => ?_); repeat with_reducible refine imp_i (fun _ => ?_)) | (with_reducible first | refine callH_use (hg) ?_ | refine pureQ_use (hg) ?_) | (with_reducible first | refine callH_use (head_17) ?_ | refine pureQ_use (head_17) ?_) | (with_reducible first | refine callH_use (hB) ?_ | refine pureQ_use (hB) ?_)))
  have HH := best17 he
  have HC := check_ok.1 (show (checkF f w l).2 = 0 by rw [← begins_err, HH.begs])
  have hR := Range_c load (by omega) .no w.m w.c b0 b1
  rw [range_do] at hR
  have c0 : IntKind.i64.wrap b0 = b0 := wrap_i64 _ (by omega) (by omega)
  have c1 : IntKind.i64.wrap b1 = b1 := wrap_i64 _ (by omega) (by omega)
  unfold bestA at hB
  rw [if_pos he] at hB
  obtain ⟨D, hD⟩ : ∃ D, rangeR load w.m w.c ⟨b0, b1⟩ = D := ⟨_, rfl⟩
  rw [hD] at hR
  by_cases hd : D.2 = 0
  case neg =>
    obtain ⟨D1, D2⟩ := D
    simp only [num] at hR hd
    clear hD HH HC he
    simp only [v_liverylaw17_CostOrder, ↓vD, vU, ↓vMd, vMu, vZ, seval, k_app, k_slc1]
    (repeat' (first | (simp (maxDischargeDepth := 16) only [*, num, iaa0, iaa1, vX, ↓vD, vU, ↓vMd, vMu, vZ, seval]) | (simp (disch := first | assumption | omega | rfl | exact fun _ => rfl) only [num, iaa0, iaa1, vP]) | ((with_reducible first | apply gsnd | apply csnd | apply gsd | apply csd | apply gsn | apply csn | apply gs | apply cs_) <;> intro _) | (with_reducible refine objQ_i (fun _ _ => ?_); repeat with_reducible refine imp_i (fun _ => ?_)) | (with_reducible first | refine callH_use (hg) ?_ | refine pureQ_use (hg) ?_) | (with_reducible first | refine callH_use (head_17) ?_ | refine pureQ_use (head_17) ?_) | (with_reducible first | refine callH_use (hB) ?_ | refine pureQ_use (hB) ?_) | (with_reducible first | refine callH_use (vec_17 _ _) ?_ | refine pureQ_use (vec_17 _ _) ?_) | (with_reducible first | refine callH_use (hR) ?_ | refine pureQ_use (hR) ?_)))
  have hs := range_sum (f := load) (a := w.m) (b := w.c) (v := ⟨b0, b1⟩) (by rw [hD]; exact hd)
  have hDl := rangeR_len load w.m w.c ⟨b0, b1⟩
  rw [hD] at hs hDl
  obtain ⟨ho1, ho2⟩ := order17 he hs.1 hs.2
  obtain ⟨hn1, hn2⟩ := none17 he
  have hB2 := Best_v D.1 (by omega) f (by omega) w w1 w4 l (by omega) many .no .no .no
  have hB3 := Best_v [] (by simp) f (by omega) w w1 w4 l (by omega) many .full .no .no
  have hA := All_16 f (by omega) .no w HH.win l hl3 HC.pos .no
  have hnum := HH.num
  have hwin := HH.win
  have hRl : (allR f w l).length ≤ 4096 := by
    have h1 : (allR f w l).length ≤ (ticks w.m w.c).length := List.length_filter_le _ _
    rw [ticks_len] at h1; omega
  unfold bestA at hB2 hB3
  rw [if_pos hn1, hn2] at hB3
  rw [ho2] at hB2
  obtain ⟨n1, n2⟩ := hnum
  have hBl := HH.len
  obtain ⟨B, hBB⟩ : ∃ B, (bestL (costP load (lengthF l).1) (allT (beginsF f w l).1)).take many.toNat = B := ⟨_, rfl⟩
  rw [hBB] at hB hB2 hBl
  have hBl64 : B.length ≤ 64 := by omega
  have s1 := Same_17 B B (by omega) .no .no
  rw [beq_self_eq_true] at s1
  obtain ⟨R, hRR⟩ : ∃ R, allR f w l = R := ⟨_, rfl⟩
  rw [hRR] at hA hB3 hRl
  have htm := take_min R n1
  have s2 := Same_17 (R.take many.toNat) (R.take many.toNat) (by rw [List.length_take]; omega) .no .no
  rw [beq_self_eq_true] at s2
  rw [hd] at hR
  simp only [num, List.map_nil] at hR hB hB3
  have hm0 : 0 ≤ min many (R.length : Int) := by omega
  have hm1 : min many (R.length : Int) ≤ R.length := by omega
  rcases ho1 with ho1 | ho1
  · rw [if_neg (by rw [ho1]; decide), ho1] at hB2
    simp only [num] at hB2
    clear hD HH HC he hs ho1 ho2 hn1 hn2 hBB hRR hA hB3 s1 s2 hBl hwin
    simp only [v_liverylaw17_CostOrder, ↓vD, vU, ↓vMd, vMu, vZ, seval, k_app, k_slc1]
    (repeat' (first | (simp (maxDischargeDepth := 16) only [*, num, iaa0, iaa1, vX, ↓vD, vU, ↓vMd, vMu, vZ, seval]) | (simp (disch := first | assumption | omega | rfl | exact fun _ => rfl) only [num, iaa0, iaa1, vP]) | ((with_reducible first | apply gsnd | apply csnd | apply gsd | apply csd | apply gsn | apply csn | apply gs | apply cs_) <;> intro _) | (with_reducible refine objQ_i (fun _ _ => ?_); repeat with_reducible refine imp_i (fun _ => ?_)) | (with_reducible first | refine callH_use (hg) ?_ | refine pureQ_use (hg) ?_) | (with_reducible first | refine callH_use (head_17) ?_ | refine pureQ_use (head_17) ?_) | (with_reducible first | refine callH_use (hB) ?_ | refine pureQ_use (hB) ?_) | (with_reducible first | refine callH_use (vec_17 _ _) ?_ | refine pureQ_use (vec_17 _ _) ?_) | (with_reducible first | refine callH_use (hR) ?_ | refine pureQ_use (hR) ?_) | (with_reducible first | refine callH_use (hB2) ?_ | refine pureQ_use (hB2) ?_)))
  · rw [if_pos ho1] at hB2
    simp only [num] at hB2
    clear hD HH HC he hs ho1 ho2 hn1 hn2 hBB hRR hBl hwin
    simp only [v_liverylaw17_CostOrder, ↓vD, vU, ↓vMd, vMu, vZ, seval, k_app, k_slc1]
    (repeat' (first | (simp (maxDischargeDepth := 16) only [*, num, iaa0, iaa1, vX, ↓vD, vU, ↓vMd, vMu, vZ, seval]) | (simp (disch := first | assumption | omega | rfl | exact fun _ => rfl) only [num, iaa0, iaa1, vP]) | ((with_reducible first | apply gsnd | apply csnd | apply gsd | apply csd | apply gsn | apply csn | apply gs | apply cs_) <;> intro _) | (with_reducible refine objQ_i (fun _ _ => ?_); repeat with_reducible refine imp_i (fun _ => ?_)) | (with_reducible first | refine callH_use (hg) ?_ | refine pureQ_use (hg) ?_) | (with_reducible first | refine callH_use (head_17) ?_ | refine pureQ_use (head_17) ?_) | (with_reducible first | refine callH_use (hB) ?_ | refine pureQ_use (hB) ?_) | (with_reducible first | refine callH_use (vec_17 _ _) ?_ | refine pureQ_use (vec_17 _ _) ?_) | (with_reducible first | refine callH_use (hR) ?_ | refine pureQ_use (hR) ?_) | (with_reducible first | refine callH_use (hB2) ?_ | refine pureQ_use (hB2) ?_) | (with_reducible first | refine callH_use (hB3) ?_ | refine pureQ_use (hB3) ?_) | (with_reducible first | refine callH_use (hA) ?_ | refine pureQ_use (hA) ?_) | (with_reducible first | refine callH_use (s1) ?_ | refine pureQ_use (s1) ?_) | (with_reducible first | refine callH_use (s2) ?_ | refine pureQ_use (s2) ?_)))
end Go.Proofs.Ytglekfgoadehbaa.V
end
section
namespace Go.Proofs.Ytglekfgoadehbaa.V
open Go Go.ChangeShapes Go.WideShapes Go.ChangeAt Go.RowKit Go.Deep
set_option maxRecDepth 100000
theorem opn_Ask17 : Opn 46 6 Ask17.a wfAsk17 :=
  opn_of (OpC.mono (opc_struct (ps := [(1, _), (1, _), (2, _), (1, _), (1, _)]) Try.underlying46 (by kernel_rfl) ⟨⟨rfl, by kernel_rfl, opc_sl Try.underlying41 (by kernel_rfl) (by decide) opn_seg⟩, ⟨rfl, by kernel_rfl, opc_sl Try.underlying41 (by kernel_rfl) (by decide) opn_seg⟩,
    ⟨rfl, by kernel_rfl, opc_of opn_win⟩, ⟨rfl, by kernel_rfl, opc_sl Try.underlying44 (by kernel_rfl) (by decide) opn_leg⟩, ⟨rfl, by kernel_rfl, opc_int (k := .i64) (by kernel_rfl)⟩, trivial⟩) (by
    rintro l ⟨_, _, rfl, ⟨load, rfl, h1⟩, _, _, rfl, ⟨f, rfl, h2⟩, _, _, rfl, ⟨w, rfl, hw⟩, _, _, rfl, ⟨ls, rfl, hl⟩, _, _, rfl, ⟨n, rfl, hn⟩, rfl⟩
    exact ⟨⟨load, f, w, ls, n⟩, rfl, h1, h2, hw, hl, i64_of hn⟩))
theorem open_Ask17 {H : Type} {enc : TypeId × Value → H} {w : World} {base base' : Nat} {spare : Nat → Bool} {held : Bool} {v : Value} {d : DataW H} {ps : List MemPlace} {r : Reach} (hval : Value.okWide Try.prog w r base' 46 v) (h : DataW.Trod enc Try.prog w base spare held 46 v d ps) :
    ∃ x : Ask17, Rep (imW w) x.a v ∧ wfAsk17 x := open_agg (g := fun x : Ask17 => [.sl (x.load.map Seg.a) .no, .sl (x.f.map Seg.a) .no, .int .i64 x.w.m, .int .i64 x.w.c, .sl (x.l.map Leg.a) .no, .int .i64 x.many]) Try.underlying46 opn_Ask17 hval h
end Go.Proofs.Ytglekfgoadehbaa.V
end
section
namespace Go.Proofs.Ytglekfgoadehbaa.V
open Go Go.ChangeShapes Go.WideShapes Go.ChangeAt Go.RowKit Go.Deep
set_option maxRecDepth 100000
theorem u8_of {n : Int} (h : (Lit.int .u8 n).wf = true) : U8 n := by
  simp [Lit.wf] at h
  unfold U8
  first | exact h | omega | (have := h; simp [IntKind.wrap, IntKind.lo, IntKind.hi] at this; omega)
end Go.Proofs.Ytglekfgoadehbaa.V
end
section
namespace Go.Proofs.Ytglekfgoadehbaa.V
open Go Go.ChangeShapes Go.WideShapes Go.ChangeAt Go.RowKit Go.Deep
set_option maxRecDepth 100000
theorem opn_arr2u8 : Opn 65 2 (fun p : Int × Int => .agg [.int .u8 p.1, .int .u8 p.2]) (fun p => U8 p.1 ∧ U8 p.2) :=
  opn_of (OpC.mono (opc_array (m := 2) (n := 1) Try.underlying65 (by kernel_rfl) (by kernel_rfl) (opc_int (by kernel_rfl))) (by
    rintro l ⟨_, _, rfl, ⟨a, rfl, ha⟩, _, _, rfl, ⟨b, rfl, hb⟩, rfl⟩
    exact ⟨(a, b), rfl, u8_of ha, u8_of hb⟩))
theorem open_arr2u8 {H : Type} {enc : TypeId × Value → H} {w : World} {base base' : Nat} {spare : Nat → Bool} {held : Bool} {v : Value} {d : DataW H} {ps : List MemPlace} {r : Reach} (hval : Value.okWide Try.prog w r base' 65 v) (h : DataW.Trod enc Try.prog w base spare held 65 v d ps) :
    ∃ p : Int × Int, Rep (imW w) (.agg [.int .u8 p.1, .int .u8 p.2]) v ∧ (U8 p.1 ∧ U8 p.2) := open_arr (g := fun p : Int × Int => [.int .u8 p.1, .int .u8 p.2]) Try.underlying65 opn_arr2u8 hval h
end Go.Proofs.Ytglekfgoadehbaa.V
end
