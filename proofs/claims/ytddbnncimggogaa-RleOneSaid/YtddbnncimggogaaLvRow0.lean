/- What is handed in, opened: ints, structs of ints, slices of them. -/
import Derived.Test.YtddbnncimggogaaLv0
import Derived.ProofKit
import Derived.Deep.Slices
namespace Go.Proofs.Ytddbnncimggogaa.LvR
open Go.ChangeShapes Go.WideShapes Go.ChangeAt Go.RowKit Go.Deep Go.Proofs.YtddbnncimggogaaW.PrintWords Go.Proofs.Ytddbnncimggogaa.Pb Go.Proofs.Ytddbnncimggogaa.Lv
variable {H : Type} {enc : TypeId × Value → H} {w : World} {base : Nat} {spare : Nat → Bool} {held : Bool}
def I64 (n : Int) : Prop := -9223372036854775808 ≤ n ∧ n ≤ 9223372036854775807
theorem i64_of {n : Int} (h : (Lit.int .i64 n).wf = true) : I64 n := by
  simp [Lit.wf] at h
  unfold I64
  first | exact h | omega | (have := h; simp [IntKind.wrap, IntKind.lo, IntKind.hi] at this; omega)
def wfVec (x : Vec) : Prop := I64 x.f0 ∧ I64 x.f1
def wfSeg (x : Seg) : Prop := I64 x.f0 ∧ wfVec x.f1
/-- What the cells of a type's value say, wherever they lie. -/
def Opn {α : Type} (e : TypeId) (d : Kd α) (wf : α → Prop) : Prop :=
  ∀ {H : Type} {enc : TypeId × Value → H} {w : World} {base : Nat} {spare : Nat → Bool} {held : Bool} {fuel : Nat} {cs : List Value} {x : DataW H × List MemPlace}, DataW.trod enc Try.prog w base spare held fuel e cs = some x → ∃ v : α, d.K w v cs ∧ wf v
instance : Inhabited Seg := ⟨z30⟩
theorem open_row {α : Type} [Inhabited α] {t e : TypeId} {d : Kd α} {wf : α → Prop} (ht : Try.prog.underlying t = some (.slice e)) (hsz : Try.prog.cellsOf e = d.sz) (hs0 : 0 < d.sz) (hO : Opn e d wf) {fuel : Nat} {cs : List Value} {x : DataW H × List MemPlace}
    (h : DataW.trod enc Try.prog w base spare held fuel t cs = some x) : ∃ (A : Option Addr) (n c : Nat) (xs : List α), cs = [.slice A n c] ∧ n ≤ c ∧ n = xs.length ∧ Kd.C d w A n xs ∧ ∀ v ∈ xs, wf v := by
  rcases open_slice ht h with ⟨rfl, _⟩ | ⟨a, len, cap, m, n, D, Pl, rfl, hb, hl, hm, hmm, _, hx⟩
  · exact ⟨none, 0, 0, [], rfl, Nat.le_refl _, rfl, ⟨rfl, by omega, fun h => absurd h (by omega)⟩, fun v hv => by cases hv⟩
  · have hlm : len ≤ m := by rw [hmm]; split <;> omega
    have each : ∀ i, i < len → ∃ q : α × List Value, d.K w q.1 q.2 ∧ wf q.1 ∧ q.2.length = d.sz ∧ ∀ j u, q.2[j]? = some u → w.cell? (a.add (i * d.sz + j)) = some u := by
      intro i hi
      obtain ⟨cs', h1, h2⟩ := hx i (by omega)
      obtain ⟨v, hK, hw⟩ := hO h2
      rw [hsz] at h1
      obtain ⟨_, hlen, hcell⟩ := World.cells?_some h1
      refine ⟨(v, cs'), hK, hw, hlen, fun j u hu => ?_⟩
      have hj : j < cs'.length := (List.getElem?_eq_some_iff.1 hu).1
      have := hcell j (by omega)
      rw [Go.Deep.add_add] at this
      rw [this]
      exact hu
    obtain ⟨q, hq⟩ := choose_lt each
    refine ⟨some a, len, cap, (List.range len).map fun i => (q i).1, rfl, hl, by simp, ⟨by simp, by simp only [maxLen] at hm; omega, fun _ => ⟨a, rfl, fun j p hj => ?_⟩⟩, fun v hv => ?_⟩
    · have hjl : j < len := by have := (List.getElem?_eq_some_iff.1 hj).1; simpa using this
      have : p = (q j).1 := by simpa [hjl] using hj.symm
      subst this
      exact ⟨(q j).2, (hq j hjl).2.2.1, (hq j hjl).1, (hq j hjl).2.2.2⟩
    · obtain ⟨i, hi, rfl⟩ := List.mem_map.1 hv
      exact (hq i (List.mem_range.1 hi)).2.1
set_option maxRecDepth 100000 in
theorem opn_vec : Opn 28 kVec wfVec := by
  intro H enc w base spare held fuel cs x h
  obtain ⟨y0, y1, n, rfl, hl, h0, h1⟩ := trod_struct2 Try.underlying28 h
  obtain ⟨a, e0, _, w0⟩ := DataW.trod_int Try.underlying2 h0
  obtain ⟨b, e1, _, w1⟩ := DataW.trod_int Try.underlying2 h1
  have hc : cs = [.int .i64 a, .int .i64 b] := by
    match cs, (show cs.length = 2 from hl) with
    | [p, q], _ =>
      have e0' : [p] = [Value.int .i64 a] := e0
      have e1' : [q] = [Value.int .i64 b] := e1
      simp at e0' e1'
      rw [e0', e1']
  subst hc
  exact ⟨⟨a, b⟩, k28_mk w ⟨a, b⟩, i64_of w0, i64_of w1⟩
set_option maxRecDepth 100000 in
theorem opn_seg : Opn 30 kSeg wfSeg := by
  intro H enc w base spare held fuel cs x h
  obtain ⟨y0, y1, n, rfl, hl, h0, h1⟩ := trod_struct2 Try.underlying30 h
  obtain ⟨a, e0, _, w0⟩ := DataW.trod_int Try.underlying2 h0
  obtain ⟨v, hv, hw⟩ := opn_vec h1
  have e1 := k28_open hv
  have hc : cs = [.int .i64 a, .int .i64 v.f0, .int .i64 v.f1] := by
    match cs, (show cs.length = 3 from hl) with
    | [p, q, r], _ =>
      have e0' : [p] = [Value.int .i64 a] := e0
      have e1' : [q, r] = [Value.int .i64 v.f0, .int .i64 v.f1] := e1
      simp at e0' e1'
      rw [e0', e1'.1, e1'.2]
  subst hc
  exact ⟨⟨a, v⟩, k30_mk w ⟨a, v⟩, i64_of w0, hw⟩
end Go.Proofs.Ytddbnncimggogaa.LvR
