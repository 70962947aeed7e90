/- Words that all walks of this work use: values, a search over a slice of runs, small steps. -/
import Derived.Test.YtddbnncimggogaaPb0
import Derived.Outline
namespace Go.Proofs.Ytddbnncimggogaa.Lv
open Go.RowKit Go.Proofs.YtddbnncimggogaaW.PrintWords Go.Proofs.YtddbnncimggogaaW.PrintLast Go.Proofs.YtddbnncimggogaaW.PrintMore Go.Proofs.Ytddbnncimggogaa.Pb
abbrev Vec := S28
abbrev Seg := S30
abbrev kVec : Kd Vec := k28
abbrev kSeg : Kd Seg := k30
def vecV (x : Vec) : Value := .agg #[.int .i64 x.f0, .int .i64 x.f1]
def segV (x : Seg) : Value := .agg #[.int .i64 x.f0, .int .i64 x.f1.f0, .int .i64 x.f1.f1]
theorem rd_seg (xs : List Seg) (k : Int) (h : k.toNat < xs.length) : xs[k.toNat] = rd_T30 xs k := by
  unfold rd_T30; simp [List.getD_eq_getElem?_getD, List.getElem?_eq_getElem h]
theorem int_eq {k : IntKind} {a b : Int} (h : a = b) : Ending.returned (.int k a) = .returned (.int k b) := by rw [h]
theorem bool_eq {a b : Bool} (h : a = b) : Ending.returned (.bool a) = .returned (.bool b) := by rw [h]
theorem bcell {W w1 : World} (hb : Below W.heap.size W w1) : (∀ b o, b < W.heap.size → w1.cell? ⟨b, o, none⟩ = W.cell? ⟨b, o, none⟩) ∧ (∀ b o, b < W.heap.size → w1.frozen? ⟨b, o, none⟩ = W.frozen? ⟨b, o, none⟩) :=
  ⟨fun b o h => hb.cell (p := ⟨b, o, none⟩) h, fun b o h => hb.frozen (p := ⟨b, o, none⟩) h⟩

/-! A region that draws its order, only reads, and calls what leaves old memory as it was: one walk in the text's order. -/
structure InB (w : World) where
  W : World
  below : Below w.heap.size w W
instance (w : World) : Inhabited (InB w) := ⟨⟨w, Below.refl _ _⟩⟩
theorem wp_region_inB {P : Program} {id : Nat} {Q : Exit → Act → World → Prop} {a : Act} {w : World} {l : List Oper} (hm : P.follows .mixedOrders = true) (hB : Region.lexB .any l.toArray = true)
    (h : wpQuiet P l.toArray (fun w' => ∃ p : InB w, w' = p.W) (fun a' => ∀ w', (∃ p : InB w, w' = p.W) → Q .normal a' w') l a) : (Code.region id l.toArray true).wp P Q a w :=
  wp_region_quiet (C := fun w' => ∃ p : InB w, w' = p.W) hm hB ⟨⟨w.drew, below_drew (Below.refl _ _)⟩, rfl⟩ (by simpa using h)
theorem Calls.inB {P : Program} {f : FuncId} {args : Array Value} {w : World} {p : InB w} {v : Value}
    (h : Calls P f args p.W fun e w' => e = .returned v ∧ Below p.W.heap.size p.W w') : Calls P f args p.W fun e w'' => e = .returned v ∧ ∃ q : InB w, w'' = q.W :=
  h.mono fun _ w' ⟨he, hb⟩ => ⟨he, ⟨w', below_step p.below hb⟩, rfl⟩
theorem InB.cell {w : World} {a : Addr} {v : Value} (h : w.cell? a = some v) (p : InB w) : p.W.cell? a = some v := pw_cell_below p.below h

/-! slices.IndexFunc over runs: whatever function is handed in, by what holds between two of its calls. -/
set_option maxHeartbeats 400000 in
set_option maxRecDepth 100000 in
theorem indexFunc_Seg (g : Nat) (cb : Array Value) (A : Option Addr) (c : Nat) (xs : List Seg) (I J : Nat → World → Prop) (w : World)
    (hC : ∀ i W, I i W → Kd.C kSeg W A xs.length xs)
    (hg : ∀ i (h : i < xs.length) W, I i W → Calls Try.prog g (#[segV xs[i]] ++ cb) W fun e W' => (e = .returned (.bool false) ∧ I (i+1) W') ∨ (e = .returned (.bool true) ∧ J i W'))
    (eg : ∀ args w, (callFunc g args).run Try.prog w = .ok (.enter g args) w)
    (h0 : I 0 w) (hn : xs.length ≤ 9223372036854775807) :
    Calls Try.prog 99 #[.slice A xs.length c, .func (.func g) #[] cb] w fun e w' => (e = .returned (.int .i64 (-1)) ∧ I xs.length w') ∨ ∃ i : Int, 0 ≤ i ∧ e = .returned (.int .i64 i) ∧ J i.toNat w' := by
  have hu30 := Try.underlying30
  go_enter Try.func99, Try.ntmps99
  go_wp2
  have HC := Aside0.mk hC
  have HG := Aside0.mk hg
  clear hC hg
  go_loopw [8] (fun v8 wr => ∃ k : Int, 0 ≤ k ∧ k ≤ xs.length ∧ v8 = .int .i64 k ∧ I k.toNat wr) (fun v8 _ => xs.length - (intOf v8).toNat)
  case atStart => exact ⟨0, by omega, by omega, rfl, h0⟩
  case round =>
    obtain ⟨k, hk0, hk, rfl, hI⟩ := hrel
    have hcr := HC.out _ _ hI
    by_cases hlt : k < xs.length
    · obtain ⟨ad, e, hx0, hx1, hx2⟩ := at_T30 hcr k (by omega) (by omega)
      cases e
      clear hcr
      go_wp2_with fail
      have hq : xs[k.toNat]'(by omega) = rd_T30 xs k := rd_seg xs k (by omega)
      have hc := HG.out k.toNat (by omega) wr hI
      rw [hq] at hc
      refine hc.mono ?_
      have hs : k.toNat + 1 = (k + 1).toNat := by omega
      rintro e w' (⟨rfl, hI'⟩ | ⟨rfl, hJ⟩)
      · rw [hs] at hI'
        clear hs hq hx0 hx1 hx2 hI hc
        go_wp2
        go_roundw
        case rel => exact ⟨k + 1, by omega, by omega, by rfl, hI'⟩
        case measure => simp [intOf]; omega
      · clear hs hq hx0 hx1 hx2 hI hc
        go_wp2
        go_ret
        exact .inr ⟨k, hk0, rfl, hJ⟩
    · clear hcr
      have hke : k.toNat = xs.length := by omega
      rw [hke] at hI
      clear hke
      go_wp2
      go_ret
      exact .inl ⟨rfl, hI⟩
set_option maxHeartbeats 400000 in
set_option maxRecDepth 100000 in
theorem containsFunc_Seg (g : Nat) (cb : Array Value) (A : Option Addr) (c : Nat) (xs : List Seg) (I J : Nat → World → Prop) (w : World)
    (hC : ∀ i W, I i W → Kd.C kSeg W A xs.length xs)
    (hg : ∀ i (h : i < xs.length) W, I i W → Calls Try.prog g (#[segV xs[i]] ++ cb) W fun e W' => (e = .returned (.bool false) ∧ I (i+1) W') ∨ (e = .returned (.bool true) ∧ J i W'))
    (eg : ∀ args w, (callFunc g args).run Try.prog w = .ok (.enter g args) w)
    (h0 : I 0 w) (hn : xs.length ≤ 9223372036854775807) :
    Calls Try.prog 53 #[.slice A xs.length c, .func (.func g) #[] cb] w fun e w' => (e = .returned (.bool false) ∧ I xs.length w') ∨ ∃ i : Nat, e = .returned (.bool true) ∧ J i w' := by
  have H := indexFunc_Seg g cb A c xs I J w hC hg eg h0 hn
  clear hC hg eg h0
  go_enter Try.func53, Try.ntmps53
  go_wp2_with fail
  refine H.mono ?_
  rintro e w' (⟨rfl, hI⟩ | ⟨i, hi, rfl, hJ⟩)
  · go_wp2
    go_ret
    exact .inl ⟨rfl, hI⟩
  · have hd : decide (0 ≤ i) = true := decide_eq_true hi
    go_wp2
    go_ret
    exact .inr ⟨i.toNat, rfl, hJ⟩
end Go.Proofs.Ytddbnncimggogaa.Lv
