/- Rows of sorted blocks: no program. -/
import Derived.Test.YtddbnncimggogaaLvSP
namespace Go.Proofs.Ytddbnncimggogaa.SP
variable {α : Type} {lt : α → α → Bool}
inductive Bk (lt : α → α → Bool) (s : Nat) : List α → Prop where
  | last (T : List α) : Srt lt T → T.length ≤ s → Bk lt s T
  | cons (U R : List α) : U.length = s → Srt lt U → Bk lt s R → Bk lt s (U ++ R)
/-- Whole blocks. -/
def Full (lt : α → α → Bool) (s : Nat) (E : List α) : Prop := ∀ R, Bk lt s R → Bk lt s (E ++ R)
theorem Full.nil (s : Nat) : Full lt s ([] : List α) := fun _ h => h
theorem Full.snoc {s : Nat} {E M : List α} (h : Full lt s E) (hM : M.length = s) (k : Srt lt M) : Full lt s (E ++ M) := fun R hR => by
  rw [List.append_assoc]
  exact h _ (Bk.cons M R hM k hR)
theorem Bk.uncons {s : Nat} {R : List α} (h : Bk lt s R) (hs : s ≤ R.length) : ∃ U R', R = U ++ R' ∧ U.length = s ∧ Srt lt U ∧ Bk lt s R' := by
  cases h with
  | last _ hT hl => exact ⟨R, [], by simp, by omega, hT, Bk.last [] Srt.nil (by simp)⟩
  | cons U R' hU hS hR => exact ⟨U, R', rfl, hU, hS, hR⟩
theorem Bk.small {s : Nat} {R : List α} (h : Bk lt s R) (hs : R.length ≤ s) (h0 : 0 < s) : Srt lt R := by
  cases h with
  | last _ hT hl => exact hT
  | cons U R' hU hS hR =>
    have : R' = [] := List.eq_nil_of_length_eq_zero (by simp at hs; omega)
    rw [this, List.append_nil]
    exact hS
theorem Bk.two {s : Nat} {R : List α} (h : Bk lt s R) (hs : 2 * s ≤ R.length) : ∃ U V R', R = U ++ (V ++ R') ∧ U.length = s ∧ V.length = s ∧ Srt lt U ∧ Srt lt V ∧ Bk lt s R' := by
  obtain ⟨U, R1, rfl, hU, sU, h1⟩ := h.uncons (by omega)
  obtain ⟨V, R2, rfl, hV, sV, h2⟩ := h1.uncons (by simp at hs; omega)
  exact ⟨U, V, R2, rfl, hU, hV, sU, sV, h2⟩
theorem Bk.tail {s : Nat} {R : List α} (h : Bk lt s R) (h1 : s < R.length) (h2 : R.length < 2 * s) : ∃ U V, R = U ++ V ∧ U.length = s ∧ 0 < V.length ∧ V.length < s ∧ Srt lt U ∧ Srt lt V := by
  obtain ⟨U, V, rfl, hU, sU, hV⟩ := h.uncons (by omega)
  simp at h1 h2
  exact ⟨U, V, rfl, hU, by omega, by omega, sU, hV.small (by omega) (by omega)⟩
end Go.Proofs.Ytddbnncimggogaa.SP
