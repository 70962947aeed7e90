/- Texts of this claim, joined: Pb0, Lv0, LvRow0, XZ, PbFVecFitsInt64, PbFVecMay, Lv1, PbEq28, PbEq30, Lv2, PbFRleSlow, Lv3, Lv4, LvSP, LvStSeg, LvSmSeg, LvSB, LvSnSeg, LvSoSeg, Lv7, Lv8, Lv9, XRle, Lv5, PbFSlotLength, PbFSlotFar, Lv6, Lv16, LvIns. -/
import Derived.Test.YtddbnncimggogaaProg
import Derived.Below
import Derived.Deep.Draws
import Derived.Deep.AppendLies
import Derived.Maps.AppendAt
import Derived.OwnWalk
import Derived.Laws.BytesArg
import Derived.Laws.MakeOwn
import Derived.Laws.OwnMore
import Derived.Deep.OwnRows
import Derived.Tactics
import Derived.Lib.ConvBytes
import Derived.Laws.Slices
import Derived.WalkKit
import Derived.KernelRfl
import Derived.RowKit3
import Derived.Deep.LoopGhost
import Derived.Deep.QuietTactic
import Derived.BigQuiet
import Derived.WideLaws
import Derived.Deep.DeepCutAuto
import Derived.Deep.CutBlock
import Derived.Deep.RegionHeld3
import Derived.Laws.Rows
import Derived.Lib.AppendStr
import Derived.ArgAppend
import Derived.Laws.IdiomCopy
import Derived.OrdersHeld
import Derived.Laws.BitsLemmas
import Derived.RowKit
import Derived.Test.YtddbnncimggogaaQRleBox1
import Derived.Outline
import Derived.ProofKit
import Derived.Deep.Slices
import Derived.WalkMore
import Derived.ScopeJumps
import Derived.WalkSpells
import Derived.Lib.BufferMore
import Derived.OpenShut
import Derived.Deep.Upon
section
namespace Go.Proofs.Ytddbnncimggogaa.Pb
open Go.RowKit Go.Proofs.YtddbnncimggogaaW.PrintWords Go.Proofs.YtddbnncimggogaaW.PrintLast Go.Proofs.YtddbnncimggogaaW.PrintMore
attribute [local go_sem] max2_int min2_int max_two min_two max_three min_three max_four min_four   -- for this text's walks alone
set_option linter.unusedVariables false
set_option linter.unusedSimpArgs false



def errW : Option Int → Value
  | none => .nilIface
  | some c => .iface 0 (.int .i64 c)
theorem errW_none : errW none = .nilIface := rfl
theorem errW_some (c : Int) : errW (some c) = .iface 0 (.int .i64 c) := rfl

theorem info2 : (Try.prog.info? 2).map (fun i => (i.zero, i.size, i.bytes)) = some (some (.int .i64 0), 1, 8) := by kernel_rfl
theorem info30 : (Try.prog.info? 30).map (fun i => (i.zero, i.size, i.bytes)) = some (some (.agg #[(.int .i64 0), (.int .i64 0), (.int .i64 0)]), 3, 24) := by kernel_rfl
-- the values' own types
/-! #### struct type 7 -/
structure S7 where
  f0 : Int
  f1 : Int
  f2 : Bool
  f3 : Int
/-! #### struct type 8 -/
structure S8 where
  f0 : Int
  f1 : Int
  f2 : Bool
  f3 : Int
/-! #### struct type 13 -/
structure S13 where
  f0 : ByteArray
  f1 : Int
/-! #### struct type 14 -/
structure S14 where
  f0 : ByteArray
  f1 : Int
/-! #### struct type 28 -/
structure S28 where
  f0 : Int
  f1 : Int
def z28 : S28 := ⟨(0 : Int), (0 : Int)⟩
def k28 : Kd S28 := Kd.iso (Kd.pair (Kd.int .i64) (Kd.int .i64)) (fun x : S28 => (x.f0, x.f1))
theorem k28_open {w : World} {x : S28} {cs : List Value} (h : k28.K w x cs) : cs = [.int .i64 x.f0, .int .i64 x.f1] := by
  obtain ⟨_, _, rfl, rfl, rfl⟩ := h
  exact rfl
theorem k28_mk (w : World) (x : S28)  : k28.K w x [.int .i64 x.f0, .int .i64 x.f1] := ⟨[.int .i64 x.f0], [.int .i64 x.f1], rfl, rfl, rfl⟩
theorem k28_mkM (w : World) (base : Nat) (ok : Nat → Prop) (x : S28)  : k28.M w base ok x [.int .i64 x.f0, .int .i64 x.f1] := ⟨[.int .i64 x.f0], [.int .i64 x.f1], rfl, rfl, rfl⟩
/-! #### struct type 30 -/
structure S30 where
  f0 : Int
  f1 : S28
def z30 : S30 := ⟨(0 : Int), z28⟩
def k30 : Kd S30 := Kd.iso (Kd.pair (Kd.int .i64) k28) (fun x : S30 => (x.f0, x.f1))
theorem k30_open {w : World} {x : S30} {cs : List Value} (h : k30.K w x cs) : cs = [.int .i64 x.f0, .int .i64 x.f1.f0, .int .i64 x.f1.f1] := by
  obtain ⟨_, _, rfl, rfl, s1⟩ := h
  obtain rfl := k28_open s1
  exact rfl
theorem k30_mk (w : World) (x : S30)  : k30.K w x [.int .i64 x.f0, .int .i64 x.f1.f0, .int .i64 x.f1.f1] := ⟨[.int .i64 x.f0], [.int .i64 x.f1.f0, .int .i64 x.f1.f1], rfl, rfl, (k28_mk w x.f1 )⟩
theorem k30_mkM (w : World) (base : Nat) (ok : Nat → Prop) (x : S30)  : k30.M w base ok x [.int .i64 x.f0, .int .i64 x.f1.f0, .int .i64 x.f1.f1] := ⟨[.int .i64 x.f0], [.int .i64 x.f1.f0, .int .i64 x.f1.f1], rfl, rfl, (k28_mkM w base ok x.f1 )⟩
def rd_T30 (xs : List S30) (i : Int) : S30 := xs.getD i.toNat z30
theorem at_T30 {w : World} {A : Option Addr} {n : Nat} {xs : List S30} (h : Kd.C k30 w A n xs) (i : Int) (h0 : 0 ≤ i) (h1 : i < n) : ∃ ad , A = some ad ∧ w.cell? (ad.add (i.toNat * 3)) = some (.int .i64 (rd_T30 xs i).f0) ∧ w.cell? ⟨(ad.add (i.toNat * 3)).block, (ad.add (i.toNat * 3)).off + 1, none⟩ = some (.int .i64 (rd_T30 xs i).f1.f0) ∧ w.cell? ⟨(ad.add (i.toNat * 3)).block, (ad.add (i.toNat * 3)).off + 2, none⟩ = some (.int .i64 (rd_T30 xs i).f1.f1) := by
  obtain ⟨ad, c, e, _, hK, hc0⟩ := Kd.C_get h z30 i h0 h1
  have hc : ∀ j u, c[j]? = some u → w.cell? (ad.add (i.toNat * 3 + j)) = some u := hc0
  obtain rfl := k30_open hK
  exact ⟨ad, e, hc 0 _ rfl, by rw [← add_field _ _ 1 (by omega)]; exact hc 1 _ rfl, by rw [← add_field _ _ 2 (by omega)]; exact hc 2 _ rfl⟩

/-! #### struct type 27 -/
structure S27 where
  f0 : Int
  f1 : Int
/-! #### struct type 29 -/
structure S29 where
  f0 : Int
  f1 : S28
/-! #### struct type 59 -/
structure S59 where
  f0 : Int
  f1 : Int
/-! #### struct type 60 -/
structure S60 where
  f0 : Int
  f1 : Int
/-! #### struct type 70 -/
structure S70 where
  f0 : Int
  f1 : S28
def z70 : S70 := ⟨(0 : Int), z28⟩
def k70 : Kd S70 := Kd.iso (Kd.pair (Kd.int .i64) k28) (fun x : S70 => (x.f0, x.f1))
theorem k70_open {w : World} {x : S70} {cs : List Value} (h : k70.K w x cs) : cs = [.int .i64 x.f0, .int .i64 x.f1.f0, .int .i64 x.f1.f1] := by
  obtain ⟨_, _, rfl, rfl, s1⟩ := h
  obtain rfl := k28_open s1
  exact rfl
def rd_T70 (xs : List S70) (i : Int) : S70 := xs.getD i.toNat z70
theorem at_T70 {w : World} {A : Option Addr} {n : Nat} {xs : List S70} (h : Kd.C k70 w A n xs) (i : Int) (h0 : 0 ≤ i) (h1 : i < n) : ∃ ad , A = some ad ∧ w.cell? (ad.add (i.toNat * 3)) = some (.int .i64 (rd_T70 xs i).f0) ∧ w.cell? ⟨(ad.add (i.toNat * 3)).block, (ad.add (i.toNat * 3)).off + 1, none⟩ = some (.int .i64 (rd_T70 xs i).f1.f0) ∧ w.cell? ⟨(ad.add (i.toNat * 3)).block, (ad.add (i.toNat * 3)).off + 2, none⟩ = some (.int .i64 (rd_T70 xs i).f1.f1) := by
  obtain ⟨ad, c, e, _, hK, hc0⟩ := Kd.C_get h z70 i h0 h1
  have hc : ∀ j u, c[j]? = some u → w.cell? (ad.add (i.toNat * 3 + j)) = some u := hc0
  obtain rfl := k70_open hK
  exact ⟨ad, e, hc 0 _ rfl, by rw [← add_field _ _ 1 (by omega)]; exact hc 1 _ rfl, by rw [← add_field _ _ 2 (by omega)]; exact hc 2 _ rfl⟩

/-! #### struct type 69 -/
structure S69 where
  f0 : Int
  f1 : S28
/-! #### struct type 77 -/
structure S77 where
  f0 : (List S30)
  f1 : (List S30)
  f2 : S60
  f3 : (List S70)
  f4 : Int
/-! #### struct type 78 -/
structure S78 where
  f0 : (List S30)
  f1 : (List S30)
  f2 : S60
  f3 : (List S70)
  f4 : Int
/-! #### struct type 106 -/
structure S106 where
  f0 : S28
  f1 : S28
/-! #### struct type 107 -/
structure S107 where
  f0 : S28
  f1 : S28
/-! #### struct type 166 -/
structure S166 where
  f0 : S28
  f1 : Int
/-! #### struct type 167 -/
structure S167 where
  f0 : S28
  f1 : Int
end Go.Proofs.Ytddbnncimggogaa.Pb
end
section
/- Words that all walks of this work use: values, a search over a slice of runs, small steps. -/
namespace Go.Proofs.Ytddbnncimggogaa.Lv
open Go.RowKit Go.Proofs.YtddbnncimggogaaW.PrintWords Go.Proofs.YtddbnncimggogaaW.PrintLast Go.Proofs.YtddbnncimggogaaW.PrintMore Go.Proofs.Ytddbnncimggogaa.Pb
abbrev Vec := S28
abbrev Seg := S30
abbrev kVec : Kd Vec := k28
abbrev kSeg : Kd Seg := k30
def vecV (x : Vec) : Value := .agg #[.int .i64 x.f0, .int .i64 x.f1]
def segV (x : Seg) : Value := .agg #[.int .i64 x.f0, .int .i64 x.f1.f0, .int .i64 x.f1.f1]
theorem rd_seg (xs : List Seg) (k : Int) (h : k.toNat < xs.length) : xs[k.toNat] = rd_T30 xs k := by
  unfold rd_T30; simp [List.getD_eq_getElem?_getD, List.getElem?_eq_getElem h]
theorem bool_eq {a b : Bool} (h : a = b) : Ending.returned (.bool a) = .returned (.bool b) := by rw [h]
/-! A region that draws its order, only reads, and calls what leaves old memory as it was: one walk in the text's order. -/
structure InB (w : World) where
  W : World
  below : Below w.heap.size w W
instance (w : World) : Inhabited (InB w) := ⟨⟨w, Below.refl _ _⟩⟩
theorem wp_region_inB {P : Program} {id : Nat} {Q : Exit → Act → World → Prop} {a : Act} {w : World} {l : List Oper} (hm : P.follows .mixedOrders = true) (hB : Region.lexB .any l.toArray = true)
    (h : wpQuiet P l.toArray (fun w' => ∃ p : InB w, w' = p.W) (fun a' => ∀ w', (∃ p : InB w, w' = p.W) → Q .normal a' w') l a) : (Code.region id l.toArray true).wp P Q a w :=
  wp_region_quiet (C := fun w' => ∃ p : InB w, w' = p.W) hm hB ⟨⟨w.drew, below_drew (Below.refl _ _)⟩, rfl⟩ (by simpa using h)
theorem Calls.inB {P : Program} {f : FuncId} {args : Array Value} {w : World} {p : InB w} {v : Value}
    (h : Calls P f args p.W fun e w' => e = .returned v ∧ Below p.W.heap.size p.W w') : Calls P f args p.W fun e w'' => e = .returned v ∧ ∃ q : InB w, w'' = q.W :=
  h.mono fun _ w' ⟨he, hb⟩ => ⟨he, ⟨w', below_step p.below hb⟩, rfl⟩
theorem InB.cell {w : World} {a : Addr} {v : Value} (h : w.cell? a = some v) (p : InB w) : p.W.cell? a = some v := pw_cell_below p.below h

/-! slices.IndexFunc over runs: whatever function is handed in, by what holds between two of its calls. -/
set_option maxHeartbeats 400000 in
set_option maxRecDepth 100000 in
theorem indexFunc_Seg (g : Nat) (cb : Array Value) (A : Option Addr) (c : Nat) (xs : List Seg) (I J : Nat → World → Prop) (w : World)
    (hC : ∀ i W, I i W → Kd.C kSeg W A xs.length xs)
    (hg : ∀ i (h : i < xs.length) W, I i W → Calls Try.prog g (#[segV xs[i]] ++ cb) W fun e W' => (e = .returned (.bool false) ∧ I (i+1) W') ∨ (e = .returned (.bool true) ∧ J i W'))
    (eg : ∀ args w, (callFunc g args).run Try.prog w = .ok (.enter g args) w)
    (h0 : I 0 w) (hn : xs.length ≤ 9223372036854775807) :
    Calls Try.prog 99 #[.slice A xs.length c, .func (.func g) #[] cb] w fun e w' => (e = .returned (.int .i64 (-1)) ∧ I xs.length w') ∨ ∃ i : Int, 0 ≤ i ∧ e = .returned (.int .i64 i) ∧ J i.toNat w' := by
  have hu30 := Try.underlying30
  go_enter Try.func99, Try.ntmps99
  go_wp2
  have HC := Aside0.mk hC
  have HG := Aside0.mk hg
  clear hC hg
  go_loopw [8] (fun v8 wr => ∃ k : Int, 0 ≤ k ∧ k ≤ xs.length ∧ v8 = .int .i64 k ∧ I k.toNat wr) (fun v8 _ => xs.length - (intOf v8).toNat)
  case atStart => exact ⟨0, by omega, by omega, rfl, h0⟩
  case round =>
    obtain ⟨k, hk0, hk, rfl, hI⟩ := hrel
    have hcr := HC.out _ _ hI
    by_cases hlt : k < xs.length
    · obtain ⟨ad, e, hx0, hx1, hx2⟩ := at_T30 hcr k (by omega) (by omega)
      cases e
      clear hcr
      go_wp2_with fail
      have hq : xs[k.toNat]'(by omega) = rd_T30 xs k := rd_seg xs k (by omega)
      have hc := HG.out k.toNat (by omega) wr hI
      rw [hq] at hc
      refine hc.mono ?_
      have hs : k.toNat + 1 = (k + 1).toNat := by omega
      rintro e w' (⟨rfl, hI'⟩ | ⟨rfl, hJ⟩)
      · rw [hs] at hI'
        clear hs hq hx0 hx1 hx2 hI hc
        go_wp2
        go_roundw
        case rel => exact ⟨k + 1, by omega, by omega, by rfl, hI'⟩
        case measure => simp [intOf]; omega
      · clear hs hq hx0 hx1 hx2 hI hc
        go_wp2
        go_ret
        exact .inr ⟨k, hk0, rfl, hJ⟩
    · clear hcr
      have hke : k.toNat = xs.length := by omega
      rw [hke] at hI
      clear hke
      go_wp2
      go_ret
      exact .inl ⟨rfl, hI⟩
set_option maxHeartbeats 400000 in
set_option maxRecDepth 100000 in
theorem containsFunc_Seg (g : Nat) (cb : Array Value) (A : Option Addr) (c : Nat) (xs : List Seg) (I J : Nat → World → Prop) (w : World)
    (hC : ∀ i W, I i W → Kd.C kSeg W A xs.length xs)
    (hg : ∀ i (h : i < xs.length) W, I i W → Calls Try.prog g (#[segV xs[i]] ++ cb) W fun e W' => (e = .returned (.bool false) ∧ I (i+1) W') ∨ (e = .returned (.bool true) ∧ J i W'))
    (eg : ∀ args w, (callFunc g args).run Try.prog w = .ok (.enter g args) w)
    (h0 : I 0 w) (hn : xs.length ≤ 9223372036854775807) :
    Calls Try.prog 53 #[.slice A xs.length c, .func (.func g) #[] cb] w fun e w' => (e = .returned (.bool false) ∧ I xs.length w') ∨ ∃ i : Nat, e = .returned (.bool true) ∧ J i w' := by
  have H := indexFunc_Seg g cb A c xs I J w hC hg eg h0 hn
  clear hC hg eg h0
  go_enter Try.func53, Try.ntmps53
  go_wp2_with fail
  refine H.mono ?_
  rintro e w' (⟨rfl, hI⟩ | ⟨i, hi, rfl, hJ⟩)
  · go_wp2
    go_ret
    exact .inl ⟨rfl, hI⟩
  · have hd : decide (0 ≤ i) = true := decide_eq_true hi
    go_wp2
    go_ret
    exact .inr ⟨i.toNat, rfl, hJ⟩
end Go.Proofs.Ytddbnncimggogaa.Lv
end
section
/- What is handed in, opened: ints, structs of ints, slices of them. -/
namespace Go.Proofs.Ytddbnncimggogaa.LvR
open Go.ChangeShapes Go.WideShapes Go.ChangeAt Go.RowKit Go.Deep Go.Proofs.YtddbnncimggogaaW.PrintWords Go.Proofs.Ytddbnncimggogaa.Pb Go.Proofs.Ytddbnncimggogaa.Lv
variable {H : Type} {enc : TypeId × Value → H} {w : World} {base : Nat} {spare : Nat → Bool} {held : Bool}
def I64 (n : Int) : Prop := -9223372036854775808 ≤ n ∧ n ≤ 9223372036854775807
theorem i64_of {n : Int} (h : (Lit.int .i64 n).wf = true) : I64 n := by
  simp [Lit.wf] at h
  unfold I64
  first | exact h | omega | (have := h; simp [IntKind.wrap, IntKind.lo, IntKind.hi] at this; omega)
def wfVec (x : Vec) : Prop := I64 x.f0 ∧ I64 x.f1
def wfSeg (x : Seg) : Prop := I64 x.f0 ∧ wfVec x.f1
/-- What the cells of a type's value say, wherever they lie. -/
def Opn {α : Type} (e : TypeId) (d : Kd α) (wf : α → Prop) : Prop :=
  ∀ {H : Type} {enc : TypeId × Value → H} {w : World} {base : Nat} {spare : Nat → Bool} {held : Bool} {fuel : Nat} {cs : List Value} {x : DataW H × List MemPlace}, DataW.trod enc Try.prog w base spare held fuel e cs = some x → ∃ v : α, d.K w v cs ∧ wf v
instance : Inhabited Seg := ⟨z30⟩
theorem open_row {α : Type} [Inhabited α] {t e : TypeId} {d : Kd α} {wf : α → Prop} (ht : Try.prog.underlying t = some (.slice e)) (hsz : Try.prog.cellsOf e = d.sz) (hs0 : 0 < d.sz) (hO : Opn e d wf) {fuel : Nat} {cs : List Value} {x : DataW H × List MemPlace}
    (h : DataW.trod enc Try.prog w base spare held fuel t cs = some x) : ∃ (A : Option Addr) (n c : Nat) (xs : List α), cs = [.slice A n c] ∧ n ≤ c ∧ n = xs.length ∧ Kd.C d w A n xs ∧ ∀ v ∈ xs, wf v := by
  rcases open_slice ht h with ⟨rfl, _⟩ | ⟨a, len, cap, m, n, D, Pl, rfl, hb, hl, hm, hmm, _, hx⟩
  · exact ⟨none, 0, 0, [], rfl, Nat.le_refl _, rfl, ⟨rfl, by omega, fun h => absurd h (by omega)⟩, fun v hv => by cases hv⟩
  · have hlm : len ≤ m := by rw [hmm]; split <;> omega
    have each : ∀ i, i < len → ∃ q : α × List Value, d.K w q.1 q.2 ∧ wf q.1 ∧ q.2.length = d.sz ∧ ∀ j u, q.2[j]? = some u → w.cell? (a.add (i * d.sz + j)) = some u := by
      intro i hi
      obtain ⟨cs', h1, h2⟩ := hx i (by omega)
      obtain ⟨v, hK, hw⟩ := hO h2
      rw [hsz] at h1
      obtain ⟨_, hlen, hcell⟩ := World.cells?_some h1
      refine ⟨(v, cs'), hK, hw, hlen, fun j u hu => ?_⟩
      have hj : j < cs'.length := (List.getElem?_eq_some_iff.1 hu).1
      have := hcell j (by omega)
      rw [Go.Deep.add_add] at this
      rw [this]
      exact hu
    obtain ⟨q, hq⟩ := choose_lt each
    refine ⟨some a, len, cap, (List.range len).map fun i => (q i).1, rfl, hl, by simp, ⟨by simp, by simp only [maxLen] at hm; omega, fun _ => ⟨a, rfl, fun j p hj => ?_⟩⟩, fun v hv => ?_⟩
    · have hjl : j < len := by have := (List.getElem?_eq_some_iff.1 hj).1; simpa using this
      have : p = (q j).1 := by simpa [hjl] using hj.symm
      subst this
      exact ⟨(q j).2, (hq j hjl).2.2.1, (hq j hjl).1, (hq j hjl).2.2.2⟩
    · obtain ⟨i, hi, rfl⟩ := List.mem_map.1 hv
      exact (hq i (List.mem_range.1 hi)).2.1
set_option maxRecDepth 100000 in
theorem opn_vec : Opn 28 kVec wfVec := by
  intro H enc w base spare held fuel cs x h
  obtain ⟨y0, y1, n, rfl, hl, h0, h1⟩ := trod_struct2 Try.underlying28 h
  obtain ⟨a, e0, _, w0⟩ := DataW.trod_int Try.underlying2 h0
  obtain ⟨b, e1, _, w1⟩ := DataW.trod_int Try.underlying2 h1
  have hc : cs = [.int .i64 a, .int .i64 b] := by
    match cs, (show cs.length = 2 from hl) with
    | [p, q], _ =>
      have e0' : [p] = [Value.int .i64 a] := e0
      have e1' : [q] = [Value.int .i64 b] := e1
      simp at e0' e1'
      rw [e0', e1']
  subst hc
  exact ⟨⟨a, b⟩, k28_mk w ⟨a, b⟩, i64_of w0, i64_of w1⟩
set_option maxRecDepth 100000 in
theorem opn_seg : Opn 30 kSeg wfSeg := by
  intro H enc w base spare held fuel cs x h
  obtain ⟨y0, y1, n, rfl, hl, h0, h1⟩ := trod_struct2 Try.underlying30 h
  obtain ⟨a, e0, _, w0⟩ := DataW.trod_int Try.underlying2 h0
  obtain ⟨v, hv, hw⟩ := opn_vec h1
  have e1 := k28_open hv
  have hc : cs = [.int .i64 a, .int .i64 v.f0, .int .i64 v.f1] := by
    match cs, (show cs.length = 3 from hl) with
    | [p, q, r], _ =>
      have e0' : [p] = [Value.int .i64 a] := e0
      have e1' : [q, r] = [Value.int .i64 v.f0, .int .i64 v.f1] := e1
      simp at e0' e1'
      rw [e0', e1'.1, e1'.2]
  subst hc
  exact ⟨⟨a, v⟩, k30_mk w ⟨a, v⟩, i64_of w0, hw⟩
end Go.Proofs.Ytddbnncimggogaa.LvR
end
section
/- A store keeps what is a cell. -/
namespace Go.Proofs.Ytddbnncimggogaa.Pb
open Go
theorem pb_isSome (w : World) (p q : Addr) (u : Value) : ((w.setCell p u).cell? q).isSome = (w.cell? q).isSome := by
  by_cases h : p = q
  · subst h
    cases hc : w.cell? p with
    | some v => rw [World.cell?_setCell_same _ _ _ hc]; rfl
    | none =>
      cases hd : (w.setCell p u).cell? p with
      | none => rfl
      | some v =>
        exfalso
        unfold World.setCell World.cell? at hd
        unfold World.cell? at hc
        simp only [Array.getElem?_modify, if_true] at hd
        cases ho : w.heap[p.block]? with
        | none => simp [ho] at hd
        | some o =>
          rw [ho] at hc hd
          cases o <;> simp at hc hd
          cases hs : p.spot <;> simp [hs] at hc hd
          simp [Array.getElem?_setIfInBounds] at hd
          omega
  · rw [World.cell?_setCell_other _ _ _ _ h]
end Go.Proofs.Ytddbnncimggogaa.Pb
end
section
namespace Go.Proofs.Ytddbnncimggogaa.Pb
open Go.RowKit Go.Proofs.YtddbnncimggogaaW.PrintWords Go.Proofs.YtddbnncimggogaaW.PrintLast Go.Proofs.YtddbnncimggogaaW.PrintMore
attribute [local go_sem] max2_int min2_int max_two min_two max_three min_three max_four min_four   -- for this text's walks alone
set_option linter.unusedVariables false
set_option linter.unusedSimpArgs false

attribute [local go_sem] pb_isSome
/-! ### vec_fits_int64: function 138 -/
def vec_fits_int64.l0 : Nat → List Int → Int → Int → Option (Bool)
  | 0, _, _, _ => none
  | k + 1, x5, x6, x7 => if x7 < x6 then (if 0 ≤ x7 then (if x7 < (x5.length : Int) then (if (rd x5 x7) < (-1125899906842624) then (some false) else (if (rd x5 x7) > 1125899906842624 then (some false) else (vec_fits_int64.l0 k x5 x6 (wrap64 (x7 + 1))))) else (none)) else (none)) else (some true)
def vec_fits_int64.f (k : Nat) (l0 : List Int) : Option (Bool) := vec_fits_int64.l0 k l0 (l0.length : Int) 0
theorem vec_fits_int64.mono_l : ∀ k, (∀ y0 y1 y2, LeO (vec_fits_int64.l0 k y0 y1 y2) (vec_fits_int64.l0 (k + 1) y0 y1 y2))
  | 0 => fun _ _ _ r h => by simp [vec_fits_int64.l0] at h
  | k + 1 => by
    have ih0 := vec_fits_int64.mono_l k
    · intro y0 y1 y2
      unfold vec_fits_int64.l0
      repeat' first
      | (with_reducible exact ih0 _ _ _)
      | (with_reducible exact LeO.refl _)
      | (with_reducible exact LeO.none _)
      | (with_reducible refine LeO.ite ?_ ?_)
      | (with_reducible refine LeO.bind ?_ (fun _ => ?_))
      | exact ih0 _ _ _
      | exact LeO.none _
      | refine LeO.ite ?_ ?_
      | refine LeO.bind ?_ (fun _ => ?_)
theorem vec_fits_int64.mono : ∀ a0 k, LeO (vec_fits_int64.f k a0) (vec_fits_int64.f (k + 1) a0) := by
  intro a0 k
  have ih0 := vec_fits_int64.mono_l k
  unfold vec_fits_int64.f
  repeat' first
      | (with_reducible exact ih0 _ _ _)
      | (with_reducible exact LeO.refl _)
      | (with_reducible exact LeO.none _)
      | (with_reducible refine LeO.ite ?_ ?_)
      | (with_reducible refine LeO.bind ?_ (fun _ => ?_))
      | exact ih0 _ _ _
      | exact LeO.none _
      | refine LeO.ite ?_ ?_
      | refine LeO.bind ?_ (fun _ => ?_)
set_option maxHeartbeats 8000000 in
set_option maxRecDepth 100000 in
theorem vec_fits_int64.calls (k : Nat) (A0 : Option Addr) (c0 : Nat) (l0 : List Int) (r : Bool) (w : World) (hr0 : Kd.C (Kd.int .i64) w A0 l0.length l0) (hc0 : l0.length ≤ c0) (h : vec_fits_int64.f k l0 = some r) :
    Calls Try.prog 138 #[.slice A0 l0.length c0] w fun e w' => e = .returned (.bool r) ∧ Drawn0 w w' := by
  have HR0 := Aside0.mk hr0
  have HC0 := Aside0.mk hc0
  clear hr0 hc0
  have H : (vec_fits_int64.l0 k l0 (l0.length : Int) 0) = some r := h
  clear h
  have H' := Aside0.mk H
  clear H
  go_enter Try.func138, Try.ntmps138
  go_wp2
  go_loopg [7] k (fun kq v7 w' => ∃ (x7_1 : Int), v7 = .int .i64 x7_1 ∧ Aside0 (vec_fits_int64.l0 kq l0 (l0.length : Int) x7_1 = some r) ∧ Aside0 (kq ≤ k) ∧ Drawn0 w w')
  case atStart => exact ⟨(0), (by first | rfl | (simp; done) | (simp [*]; done)), H', ⟨Nat.le_refl _⟩, by repeat (first | exact Drawn0.refl _ | apply Drawn0.step)⟩
  case round =>
    clear H'
    try clear c1
    obtain ⟨x7_1, rfl, HA, HK1, ⟨m1, rfl⟩⟩ := hrel
    cases gk with
    | zero => exact absurd HA.out (by simp [vec_fits_int64.l0])
    | succ k1 =>
      have H := HA.out
      clear HA
      simp only [vec_fits_int64.l0] at H
      by_cases c2 : x7_1 < (l0.length : Int)
      · rw [if_pos c2] at H
        have c2b0 : decide (x7_1 < (l0.length : Int)) = true := decide_eq_true c2
        clear c2
        by_cases c3 : 0 ≤ x7_1
        · rw [if_pos c3] at H
          have c3b0 : decide (0 ≤ x7_1) = true := decide_eq_true c3
          clear c3
          by_cases c4 : x7_1 < (l0.length : Int)
          · rw [if_pos c4] at H
            have c4b0 : decide (x7_1 < (l0.length : Int)) = true := decide_eq_true c4
            clear c4
            by_cases c5 : (rd l0 x7_1) < (-1125899906842624)
            · rw [if_pos c5] at H
              have c5b0 : decide ((rd l0 x7_1) < (-1125899906842624)) = true := decide_eq_true c5
              clear c5
              obtain rfl := Option.some.inj H
              have p101 : 0 ≤ (x7_1 : Int) := of_decide_eq_true (by first | (with_reducible assumption) | assumption)
              have q101 : x7_1 < (l0.length : Int) := of_decide_eq_true (by first | (with_reducible assumption) | assumption)
              obtain ⟨ad101, e101, hx101_0⟩ := Kd.at_int HR0.out x7_1 p101 q101
              cases e101
              replace p101 := eq_true p101
              replace q101 := eq_true q101
              go_wp2
              go_ret
              exact ⟨by first | rfl | (simp; done) | (simp [*]; done), by repeat (first | exact Drawn0.refl _ | apply Drawn0.step)⟩
            · rw [if_neg c5] at H
              have c5b0 : decide ((rd l0 x7_1) < (-1125899906842624)) = false := decide_eq_false c5
              clear c5
              by_cases c6 : (rd l0 x7_1) > 1125899906842624
              · rw [if_pos c6] at H
                have c6b0 : decide (1125899906842624 < (rd l0 x7_1)) = true := decide_eq_true c6
                clear c6
                obtain rfl := Option.some.inj H
                have p101 : 0 ≤ (x7_1 : Int) := of_decide_eq_true (by first | (with_reducible assumption) | assumption)
                have q101 : x7_1 < (l0.length : Int) := of_decide_eq_true (by first | (with_reducible assumption) | assumption)
                obtain ⟨ad101, e101, hx101_0⟩ := Kd.at_int HR0.out x7_1 p101 q101
                cases e101
                replace p101 := eq_true p101
                replace q101 := eq_true q101
                go_wp2
                go_ret
                exact ⟨by first | rfl | (simp; done) | (simp [*]; done), by repeat (first | exact Drawn0.refl _ | apply Drawn0.step)⟩
              · rw [if_neg c6] at H
                have c6b0 : decide (1125899906842624 < (rd l0 x7_1)) = false := decide_eq_false c6
                clear c6
                have H' := Aside0.mk H
                clear H
                have p101 : 0 ≤ (x7_1 : Int) := of_decide_eq_true (by first | (with_reducible assumption) | assumption)
                have q101 : x7_1 < (l0.length : Int) := of_decide_eq_true (by first | (with_reducible assumption) | assumption)
                obtain ⟨ad101, e101, hx101_0⟩ := Kd.at_int HR0.out x7_1 p101 q101
                cases e101
                replace p101 := eq_true p101
                replace q101 := eq_true q101
                go_wp2
                go_roundg k1
                case measure => have := HK1.out; omega
                case rel => exact ⟨(wrap64 (x7_1 + 1)), (by first | rfl | (simp; done) | (simp [*]; done)), H', ⟨by have := HK1.out; omega⟩, by repeat (first | exact Drawn0.refl _ | apply Drawn0.step)⟩
          · rw [if_neg c4] at H
            exact absurd H (by simp)
        · rw [if_neg c3] at H
          exact absurd H (by simp)
      · rw [if_neg c2] at H
        have c2b0 : decide (x7_1 < (l0.length : Int)) = false := decide_eq_false c2
        clear c2
        obtain rfl := Option.some.inj H
        go_wp2
        go_ret
        exact ⟨by first | rfl | (simp; done) | (simp [*]; done), by repeat (first | exact Drawn0.refl _ | apply Drawn0.step)⟩

end Go.Proofs.Ytddbnncimggogaa.Pb
end
section
namespace Go.Proofs.Ytddbnncimggogaa.Pb
open Go.RowKit Go.Proofs.YtddbnncimggogaaW.PrintWords Go.Proofs.YtddbnncimggogaaW.PrintLast Go.Proofs.YtddbnncimggogaaW.PrintMore
attribute [local go_sem] max2_int min2_int max_two min_two max_three min_three max_four min_four   -- for this text's walks alone
set_option linter.unusedVariables false
set_option linter.unusedSimpArgs false

attribute [local go_sem] pb_isSome
/-! ### vec_May: function 100 -/
def vec_May.f (k : Nat) (a0_0 : Int) (a0_1 : Int) : Option (Bool) := (vec_fits_int64.f k (([a0_0, a0_1] : List Int))).bind fun t105 => (some t105)
theorem vec_May.mono : ∀ a0 a1 k, LeO (vec_May.f k a0 a1) (vec_May.f (k + 1) a0 a1) := by
  intro a0 a1 k
  unfold vec_May.f
  repeat' first
      | (with_reducible exact vec_fits_int64.mono _ _)
      | (with_reducible exact LeO.refl _)
      | (with_reducible exact LeO.none _)
      | (with_reducible refine LeO.ite ?_ ?_)
      | (with_reducible refine LeO.bind ?_ (fun _ => ?_))
      | exact vec_fits_int64.mono _ _
      | exact LeO.none _
      | refine LeO.ite ?_ ?_
      | refine LeO.bind ?_ (fun _ => ?_)
set_option maxHeartbeats 8000000 in
set_option maxRecDepth 100000 in
theorem vec_May.calls (k : Nat) (a0_0 : Int) (a0_1 : Int) (r : Bool) (w : World) (h : vec_May.f k a0_0 a0_1 = some r) :
    Calls Try.prog 100 #[.agg #[.int .i64 a0_0, .int .i64 a0_1]] w fun e w' => e = .returned (.bool r) ∧ Below w.heap.size w w' := by
  have hu28 := Try.underlying28
  have HB := Aside0.mk (Below.refl w.heap.size w)
  have H : ((vec_fits_int64.f k (([a0_0, a0_1] : List Int))).bind fun t105 => (some t105)) = some r := h
  clear h
  obtain ⟨y102, hy102⟩ : ∃ y_ : List Int, y_ = (([a0_0, a0_1] : List Int)) := ⟨_, rfl⟩
  replace H : ((vec_fits_int64.f k y102).bind fun t105 => (some t105)) = some r := by first | (rw [hy102]; with_reducible exact H) | (have H2_ := (Option.bind_some _ _).symm.trans H; rw [hy102]; with_reducible exact H2_) | (have H2_ := (Option.bind_some _ _).symm.trans H; with_reducible exact H2_) | with_reducible exact H | (rw [hy102]; exact H) | exact H
  have Ny102 := Aside0.mk hy102
  clear hy102
  replace H := Option.bind_eq_some_iff.mp H
  obtain ⟨t105, A20, H⟩ := H
  replace H : (some t105) = some r := H
  have A2 := Aside0.mk A20
  clear A20
  obtain rfl := Option.some.inj H
  go_enter Try.func100, Try.ntmps100
  go_wp2_with (first | ((with_reducible refine gate_dst (N := 1) rfl ?_); refine box_event ?hg (N := 1) ?hd (cs := #[.int .i64 a0_0, .int .i64 a0_1]) (t := 28) ?hr ?_; (case hd => rfl); (case hg => rfl); (case hr => first | (go_simp; done) | (go_simp; rfl)); intro gb101 hg w3 hbox hb; have n0_ := Aside0.mk (below_step (by repeat (first | (with_reducible first | exact HB.out | apply below_alloc | apply pw_below_drewN | apply below_drew1) | exact HB.out)) hb); have n1_ := Aside0.mk (hbox); have n2_ := Aside0.mk ((by rw [hg]; exact (below_size (by repeat (first | (with_reducible first | exact HB.out | apply below_alloc | apply pw_below_drewN | apply below_drew1) | exact HB.out))) : w.heap.size ≤ gb101)); have n3_ := Aside0.mk ((by rw [hg]; exact (below_size (by repeat (first | (with_reducible first | exact HB.out | apply below_alloc | apply pw_below_drewN | apply below_drew1) | exact HB.out))) : w.heap.size ≤ gb101)); clear HB; have HB := n0_; have BK101 := n1_; have GW101 := n2_; have GE101 := n3_; clear n0_ n1_ n2_ n3_; clear hb hbox hg; have hcz4_0 : w3.cell? ⟨gb101, 0, none⟩ = some (.int .i64 a0_0) := (blk_cell BK101.out 0).trans rfl; have hcz4_1 : w3.cell? ⟨gb101, 1, none⟩ = some (.int .i64 a0_1) := (blk_cell BK101.out 1).trans rfl; have hfz4_0 := blk_frozen BK101.out 0; have hfz4_1 := blk_frozen BK101.out 1) | ((with_reducible refine gate_dst (N := 7) rfl ?_); refine Kd.R_lit (Kd.int .i64) _ 2 ?hg (N := 7) ?hd (xs := ([a0_0, a0_1] : List Int)) (inner := [.int .i64 a0_0, .int .i64 a0_1]) (ok := fun _ => True) (okp := fun _ => True) ?hr ?hp (fun _ hk => hk) trivial (Below.refl _ _) (Nat.le_refl _) (by simp) ?_; (case hd => rfl); (case hg => rfl); (case hr => first | (go_simp; done) | (go_simp; rfl)); (case hp => exact (Reps.one (show Kd.M (Kd.int .i64) _ _ _ a0_0 [.int .i64 a0_0] from rfl) (Reps.one (show Kd.M (Kd.int .i64) _ _ _ a0_1 [.int .i64 a0_1] from rfl) (Reps.none _ _)))); intro v103 w5 ho6 hb hg_ hnew_; clear hg_ hnew_; (first | rw [← Ny102.out] at ho6 | (simp only [Int.reduceToNat] at ho6; rw [← Ny102.out] at ho6)); have n0_ := Aside0.mk (Kd.R_lower ho6 (below_size (by repeat (first | (with_reducible first | exact HB.out | apply below_alloc | apply pw_below_drewN | apply below_drew1 | refine below_set ?_ GE101.out) | exact HB.out)))); have n1_ := Aside0.mk (blk_below (g := gb101) (o := .cells #[.int .i64 a0_0, .int .i64 a0_1] 28 (0, 0)) (by (with_reducible repeat (first | refine blk_drewN ?_ _ | refine blk_drew ?_ | refine blk_alloc ?_ _)); exact BK101.out) hb); have n2_ := Aside0.mk (below_step (by repeat (first | (with_reducible first | exact HB.out | apply below_alloc | apply pw_below_drewN | apply below_drew1 | refine below_set ?_ GE101.out) | exact HB.out)) hb); clear BK101; clear HB; have HO104 := n0_; have BK101 := n1_; have HB := n2_; clear n0_ n1_ n2_; clear hb ho6; obtain ⟨Ao7, co7, eo7⟩ := Kd.R_slice HO104.out; subst eo7) | ((with_reducible refine gate_callee (f := 138) rfl ?_); refine goesL_ (some 8) rfl rfl Try.func138 (by kernel_rfl) rfl #[.slice Ao7 y102.length co7] rfl (by (try simp only [List.map_toArray, List.map_cons, List.map_nil]); first | done | rfl | (simp only [List.length_drop, List.length_take]; rfl)) ?_; (with_reducible refine (vec_fits_int64.calls k _ _ y102 t105 _ ?side1 ?side2 A2.out).mono ?_); (case side1 => repeat (first | exact (Kd.R_reads' HO104.out).2.2 | (with_reducible refine Kd.C_alloc ?_ _) | (with_reducible refine Kd.C_drewN ?_ _) | (with_reducible refine Kd.C_drew ?_))); (case side2 => exact (Kd.R_reads' HO104.out).2.1); rintro e w' ⟨rfl, ⟨nd, rfl⟩⟩; refine ⟨_, rfl, ?_⟩))
  go_ret
  exact ⟨by first | rfl | (simp [errW_none, errW_some] <;> rfl) | (simp [*, errW_none, errW_some] <;> rfl), by repeat (first | (with_reducible first | exact HB.out | apply below_alloc | apply pw_below_drewN | apply below_drew1 | refine below_set ?_ GE101.out) | exact HB.out)⟩

end Go.Proofs.Ytddbnncimggogaa.Pb
end
section
/- rle's runs: whether one may be, how two stand, copies. -/
namespace Go.Proofs.Ytddbnncimggogaa.Lv
open Go.RowKit Go.Proofs.YtddbnncimggogaaW.PrintWords Go.Proofs.YtddbnncimggogaaW.PrintLast Go.Proofs.YtddbnncimggogaaW.PrintMore Go.Proofs.Ytddbnncimggogaa.Pb
def mayV (a b : Int) : Bool := decide (-1125899906842624 ≤ a ∧ a ≤ 1125899906842624 ∧ -1125899906842624 ≤ b ∧ b ≤ 1125899906842624)
def inS (x : Seg) : Bool := decide (-1125899906842624 ≤ x.f0 ∧ x.f0 ≤ 1125899906842624) && mayV x.f1.f0 x.f1.f1
theorem vecMay_f (a b : Int) : ∃ k, vec_May.f k a b = some (mayV a b) := by
  refine ⟨3, ?_⟩
  unfold vec_May.f vec_fits_int64.f mayV
  simp only [vec_fits_int64.l0, rd, List.length_cons, List.length_nil]
  by_cases h1 : a < -1125899906842624
  · simp [h1] <;> omega
  · by_cases h2 : a > 1125899906842624
    · simp [h1, h2] <;> omega
    · by_cases h3 : b < -1125899906842624
      · simp [h1, h2, h3, wrap64] <;> omega
      · by_cases h4 : b > 1125899906842624
        · simp [h1, h2, h3, h4, wrap64] <;> omega
        · simp [h1, h2, h3, h4, wrap64] <;> omega
theorem vecMay_calls (a b : Int) (w : World) : Calls Try.prog 100 #[.agg #[.int .i64 a, .int .i64 b]] w fun e w' => e = .returned (.bool (mayV a b)) ∧ Below w.heap.size w w' := by
  obtain ⟨k, h⟩ := vecMay_f a b
  exact vec_May.calls k a b _ w h
set_option maxHeartbeats 400000 in
set_option maxRecDepth 100000 in
theorem in_calls (x : Seg) (w : World) : Calls Try.prog 55 #[segV x] w fun e w' => e = .returned (.bool (inS x)) ∧ Below w.heap.size w w' := by
  have hu30 := Try.underlying30
  have hu28 := Try.underlying28
  unfold segV
  by_cases h1 : -1125899906842624 ≤ x.f0
  · by_cases h2 : x.f0 ≤ 1125899906842624
    · have hv : inS x = mayV x.f1.f0 x.f1.f1 := by simp [inS, h1, h2]
      rw [hv]
      clear hv
      have h3 : decide (-1125899906842624 ≤ x.f0) = true := decide_eq_true h1
      have h4 : decide (x.f0 ≤ 1125899906842624) = true := decide_eq_true h2
      go_enter Try.func55, Try.ntmps55
      go_wp2_with fail
      refine (vecMay_calls _ _ _).mono ?_
      rintro e w1 ⟨rfl, hb⟩
      go_wp2
      go_ret
      exact ⟨rfl, (below_alloc (Below.refl _ _) _).trans (hb.mono (by simp))⟩
    · have hv : inS x = false := by simp [inS, h2]
      rw [hv]
      clear hv
      have h3 : decide (-1125899906842624 ≤ x.f0) = true := decide_eq_true h1
      have h4 : decide (x.f0 ≤ 1125899906842624) = false := decide_eq_false h2
      go_enter Try.func55, Try.ntmps55
      go_wp2
      go_ret
      exact ⟨rfl, below_alloc (Below.refl _ _) _⟩
  · have hv : inS x = false := by simp [inS, h1]
    rw [hv]
    clear hv
    have h3 : decide (-1125899906842624 ≤ x.f0) = false := decide_eq_false h1
    go_enter Try.func55, Try.ntmps55
    go_wp2
    go_ret
    exact ⟨rfl, below_alloc (Below.refl _ _) _⟩
set_option maxHeartbeats 400000 in
set_option maxRecDepth 100000 in
theorem of1_calls (x : Seg) (w : World) : Calls Try.prog 54 #[segV x] w fun e w' => e = .returned (.bool (!inS x)) ∧ Below w.heap.size w w' := by
  have hu30 := Try.underlying30
  have h := fun W => in_calls x W
  unfold segV at *
  go_enter Try.func54, Try.ntmps54
  go_wp2_with fail
  refine (h _).mono ?_
  rintro e w1 ⟨rfl, hb⟩
  clear h
  go_wp2
  go_ret
  exact ⟨rfl, (below_alloc (Below.refl _ _) _).trans (hb.mono (by simp))⟩
def cmpS (x y : Seg) : Int := if x.f0 < y.f0 then -1 else if y.f0 < x.f0 then 1 else 0
set_option maxHeartbeats 400000 in
set_option maxRecDepth 100000 in
theorem compare_calls (r : Value) (x y : Seg) (w : World) : Calls Try.prog 103 #[r, segV x, segV y] w fun e w' => e = .returned (.int .i64 (cmpS x y)) ∧ Below w.heap.size w w' := by
  have hu30 := Try.underlying30
  unfold segV
  by_cases h1 : x.f0 < y.f0
  · have hv : cmpS x y = -1 := by simp [cmpS, h1]
    rw [hv]
    clear hv
    have h3 : decide (x.f0 < y.f0) = true := decide_eq_true h1
    go_enter Try.func103, Try.ntmps103
    go_wp2
    go_ret
    exact ⟨rfl, below_alloc (below_alloc (Below.refl _ _) _) _⟩
  · have h3 : decide (x.f0 < y.f0) = false := decide_eq_false h1
    by_cases h2 : y.f0 < x.f0
    · have hv : cmpS x y = 1 := by simp [cmpS, h1, h2]
      rw [hv]
      clear hv
      have h4 : decide (y.f0 < x.f0) = true := decide_eq_true h2
      go_enter Try.func103, Try.ntmps103
      go_wp2
      go_ret
      exact ⟨rfl, below_alloc (below_alloc (Below.refl _ _) _) _⟩
    · have hv : cmpS x y = 0 := by simp [cmpS, h1, h2]
      rw [hv]
      clear hv
      have h4 : decide (y.f0 < x.f0) = false := decide_eq_false h2
      go_enter Try.func103, Try.ntmps103
      go_wp2
      go_ret
      exact ⟨rfl, below_alloc (below_alloc (Below.refl _ _) _) _⟩
end Go.Proofs.Ytddbnncimggogaa.Lv
end
section
namespace Go.Proofs.Ytddbnncimggogaa.Pb
open Go.RowKit Go.Proofs.YtddbnncimggogaaW.PrintWords Go.Proofs.YtddbnncimggogaaW.PrintLast Go.Proofs.YtddbnncimggogaaW.PrintMore
attribute [local go_sem] max2_int min2_int max_two min_two max_three min_three max_four min_four   -- for this text's walks alone
set_option linter.unusedVariables false
set_option linter.unusedSimpArgs false

attribute [local go_sem] pb_isSome
theorem eqA28 (d : Nat) (w : World) (x0 y0 : Int) (x1 y1 : Int) :
    (Op.equalIn (d + 2) 28 (.agg #[.int .i64 x0, .int .i64 x1]) (.agg #[.int .i64 y0, .int .i64 y1])).run Try.prog w = .ok (x0 == y0 && (x1 == y1)) w := by
  refine eqA_of Try.underlying28 (by kernel_rfl) ?_
  refine eqf_cons (by rfl) (by go_simp; rfl) (by go_simp; rfl) (by go_simp) ?_
  exact eqf_last (by rfl) (by go_simp; rfl) (by go_simp; rfl) (by go_simp)
end Go.Proofs.Ytddbnncimggogaa.Pb
end
section
namespace Go.Proofs.Ytddbnncimggogaa.Pb
open Go.RowKit Go.Proofs.YtddbnncimggogaaW.PrintWords Go.Proofs.YtddbnncimggogaaW.PrintLast Go.Proofs.YtddbnncimggogaaW.PrintMore
attribute [local go_sem] max2_int min2_int max_two min_two max_three min_three max_four min_four   -- for this text's walks alone
set_option linter.unusedVariables false
set_option linter.unusedSimpArgs false

attribute [local go_sem] pb_isSome
theorem eqA30 (d : Nat) (w : World) (x0 y0 : Int) (x1 y1 : Int) (x2 y2 : Int) :
    (Op.equalIn (d + 3) 30 (.agg #[.int .i64 x0, .int .i64 x1, .int .i64 x2]) (.agg #[.int .i64 y0, .int .i64 y1, .int .i64 y2])).run Try.prog w = .ok (x0 == y0 && ((x1 == y1 && (x2 == y2)))) w := by
  refine eqA_of Try.underlying30 (by kernel_rfl) ?_
  refine eqf_cons (by rfl) (by go_simp; rfl) (by go_simp; rfl) (by go_simp) ?_
  exact eqf_last (by rfl) (by go_simp) (by go_simp) (eqA28 (d + 0) w _ _ _ _)
end Go.Proofs.Ytddbnncimggogaa.Pb
end
section
/- rle.May: whether a row of runs is canonical. -/
namespace Go.Proofs.Ytddbnncimggogaa.Lv
open Go.RowKit Go.Proofs.YtddbnncimggogaaW.PrintWords Go.Proofs.YtddbnncimggogaaW.PrintLast Go.Proofs.YtddbnncimggogaaW.PrintMore Go.Proofs.Ytddbnncimggogaa.Pb
attribute [local go_sem high] eqA28
def oddS (x : Seg) (lm lc ah : Int) : Bool := !inS x || ((x.f1.f0 == lm && x.f1.f1 == lc) || decide (x.f0 ≤ ah))
set_option maxHeartbeats 400000 in
set_option maxRecDepth 100000 in
theorem may1_calls (x : Seg) (lm lc ah : Int) (b1 b2 B : Nat) (w0 w : World) (hB : Below B w0 w) (h1 : B ≤ b1) (h2 : B ≤ b2) (hne : b1 ≠ b2) (hBw : B ≤ w.heap.size)
    (c1 : w.heap[b1]? = some (.cells #[.int .i64 lm, .int .i64 lc] 28 (0, 0))) (c2 : w.heap[b2]? = some (.cells #[.int .i64 ah] 2 (0, 0))) :
    Calls Try.prog 61 #[segV x, .pointer (some ⟨b1, 0, none⟩), .pointer (some ⟨b2, 0, none⟩)] w fun e w' => e = .returned (.bool (oddS x lm lc ah)) ∧ Below B w0 w' ∧
      w'.heap[b1]? = some (.cells #[.int .i64 x.f1.f0, .int .i64 x.f1.f1] 28 (0, 0)) ∧ w'.heap[b2]? = some (.cells #[.int .i64 x.f0] 2 (0, 0)) := by
  have hu30 := Try.underlying30
  have hu28 := Try.underlying28
  have hin := fun W => in_calls x W
  unfold segV at *
  have l1 : b1 < w.heap.size := (Array.getElem?_eq_some_iff.1 c1).1
  have l2 : b2 < w.heap.size := (Array.getElem?_eq_some_iff.1 c2).1
  go_enter Try.func61, Try.ntmps61
  go_wp2_with fail
  refine (hin _).mono ?_
  rintro e w1 ⟨rfl, hb⟩
  clear hin
  have d1 := blk_below (blk_alloc c1 _) hb
  have d2 := blk_below (blk_alloc c2 _) hb
  have d3 := blk_below (blk_new w _) hb
  have hBB : Below B w0 w1 := ((hB.alloc hBw _).trans (hb.mono (by simp; omega)))
  have n1 : b1 ≠ w.heap.size := by omega
  have n2 : b2 ≠ w.heap.size := by omega
  have D1 := Aside0.mk d1
  have D2 := Aside0.mk d2
  have D3 := Aside0.mk d3
  have HBB := Aside0.mk hBB
  have NE := Aside0.mk (And.intro hne (And.intro n1 n2))
  have e10 : w1.cell? ⟨b1, 0, none⟩ = some (.int .i64 lm) := (blk_cell d1 0).trans rfl
  have e11 : w1.cell? ⟨b1, 1, none⟩ = some (.int .i64 lc) := (blk_cell d1 1).trans rfl
  have e20 : w1.cell? ⟨b2, 0, none⟩ = some (.int .i64 ah) := (blk_cell d2 0).trans rfl
  have e30 : w1.cell? ⟨w.heap.size, 0, none⟩ = some (.int .i64 x.f0) := (blk_cell d3 0).trans rfl
  have e31 : w1.cell? ⟨w.heap.size, 1, none⟩ = some (.int .i64 x.f1.f0) := (blk_cell d3 1).trans rfl
  have e32 : w1.cell? ⟨w.heap.size, 2, none⟩ = some (.int .i64 x.f1.f1) := (blk_cell d3 2).trans rfl
  have z1 := blk_frozen d1 0
  have z2 := blk_frozen d1 1
  have z3 := blk_frozen d2 0
  have m1 : ¬ b1 = b2 := hne
  have m2 : ¬ b2 = b1 := fun h => hne h.symm
  have m3 : ¬ b1 = w.heap.size := n1
  have m4 : ¬ b2 = w.heap.size := n2
  clear d1 d2 d3 hBB hne n1 n2 hb c1 c2 hB l1 l2
  cases hi : inS x
  all_goals
    go_wp2_with fail
    all_goals go_region
    all_goals go_wp2
    all_goals go_ret
    all_goals
      refine ⟨?_, ?_, ?_, ?_⟩
      · first
          | (simp [oddS, hi]; done)
          | (simp [oddS, hi, (by omega : x.f1.f0 = lm), (by omega : x.f1.f1 = lc)]; done)
      · repeat (first | exact HBB.out | apply below_drew | refine Below.setCell ?_ h1 _ | refine Below.setCell ?_ h2 _)
      · exact blk_drew (blk_far (blk_put (blk_put D1.out 0 _ rfl) 1 _ rfl) NE.out.1 _)
      · exact blk_drew (blk_put (blk_far (blk_far D2.out (fun h => NE.out.1 h.symm) _) (fun h => NE.out.1 h.symm) _) 0 _ rfl)

/-- Is a row canonical: whatever ran ahead of it. -/
def mayB : List Seg → Int → Int → Int → Bool
  | [], _, _, _ => true
  | x :: l, lm, lc, ah => !oddS x lm lc ah && mayB l x.f1.f0 x.f1.f1 x.f0
def mayF (l : List Seg) : Bool := mayB l 0 0 (-1125899906842625)
def lastM (l : List Seg) (i : Nat) : Int := match i with | 0 => 0 | j + 1 => (l.getD j z30).f1.f0
def lastC (l : List Seg) (i : Nat) : Int := match i with | 0 => 0 | j + 1 => (l.getD j z30).f1.f1
def lastT (l : List Seg) (i : Nat) : Int := match i with | 0 => -1125899906842625 | j + 1 => (l.getD j z30).f0
theorem mayB_drop (l : List Seg) (i : Nat) (h : i < l.length) : mayB (l.drop i) (lastM l i) (lastC l i) (lastT l i) = (!oddS l[i] (lastM l i) (lastC l i) (lastT l i) && mayB (l.drop (i+1)) (lastM l (i+1)) (lastC l (i+1)) (lastT l (i+1))) := by
  rw [List.drop_eq_getElem_cons h]
  simp [mayB, lastM, lastC, lastT, List.getD_eq_getElem?_getD, List.getElem?_eq_getElem h]
set_option maxHeartbeats 400000 in
set_option maxRecDepth 100000 in
theorem may_calls (A : Option Addr) (c : Nat) (xs : List Seg) (w : World) (hr : Kd.C kSeg w A xs.length xs) (hn : xs.length ≤ 9223372036854775807) :
    Calls Try.prog 23 #[.slice A xs.length c] w fun e w' => e = .returned (.bool (mayF xs)) ∧ Below w.heap.size w w' := by
  have hu28 := Try.underlying28
  have H := containsFunc_Seg 61 #[.pointer (some ⟨w.heap.size, 0, none⟩), .pointer (some ⟨w.heap.size + 1, 0, none⟩)] A c xs
    (fun i W => Below w.heap.size w W ∧ W.heap[w.heap.size]? = some (.cells #[.int .i64 (lastM xs i), .int .i64 (lastC xs i)] 28 (0, 0)) ∧ W.heap[w.heap.size + 1]? = some (.cells #[.int .i64 (lastT xs i)] 2 (0, 0)) ∧ mayF xs = mayB (xs.drop i) (lastM xs i) (lastC xs i) (lastT xs i))
    (fun _ W => Below w.heap.size w W ∧ mayF xs = false)
  have H' := fun W h0 => H W (fun i W h => Kd.C_below hr h.1) (fun i hi W h => ((may1_calls xs[i] _ _ _ _ _ w.heap.size w W h.1 (Nat.le_refl _) (by omega) (by omega) h.1.size h.2.1 h.2.2.1).mono (by
      rintro e W' ⟨rfl, hb, q1, q2⟩
      have hm := h.2.2.2
      rw [mayB_drop xs i hi] at hm
      cases ho : oddS xs[i] (lastM xs i) (lastC xs i) (lastT xs i)
      · refine .inl ⟨rfl, hb, ?_, ?_, ?_⟩
        · simpa [lastM, lastC, List.getD_eq_getElem?_getD, List.getElem?_eq_getElem hi] using q1
        · simpa [lastT, List.getD_eq_getElem?_getD, List.getElem?_eq_getElem hi] using q2
        · simpa [ho] using hm
      · refine .inr ⟨rfl, hb, ?_⟩
        simpa [ho] using hm))) (fun _ _ => rfl) h0 hn
  clear H
  go_enter Try.func23, Try.ntmps23
  go_wp2_with fail
  refine (H' _ ?_).mono ?_
  · refine ⟨?_, ?_, ?_, rfl⟩
    · repeat (first | exact Below.refl _ _ | apply below_alloc | refine below_set ?_ (by omega))
    · exact blk_alloc (blk_new w _) _
    · have hq := blk_new (w.alloc (.cells #[.int .i64 0, .int .i64 0] 28)) (.cells #[.int .i64 (-1125899906842625)] 2)
      have hs : (w.alloc (.cells #[.int .i64 0, .int .i64 0] 28)).heap.size = w.heap.size + 1 := by simp
      rw [hs] at hq
      exact hq
  · rintro e w1 (⟨rfl, hb, _, _, hm⟩ | ⟨i, rfl, hb, hm⟩)
    all_goals
      go_wp2
      go_ret
      exact ⟨by simp [hm, mayB], hb⟩
end Go.Proofs.Ytddbnncimggogaa.Lv
end
section
namespace Go.Proofs.Ytddbnncimggogaa.Pb
open Go.RowKit Go.Proofs.YtddbnncimggogaaW.PrintWords Go.Proofs.YtddbnncimggogaaW.PrintLast Go.Proofs.YtddbnncimggogaaW.PrintMore
attribute [local go_sem] max2_int min2_int max_two min_two max_three min_three max_four min_four   -- for this text's walks alone
set_option linter.unusedVariables false
set_option linter.unusedSimpArgs false

attribute [local go_sem] pb_isSome
/-! ### rle_slow: function 58 -/
def rle_slow.l0 : Nat → Int → List (S30) → Int → Int → Int → Int → Option (Int × Int)
  | 0, _, _, _, _, _, _ => none
  | k + 1, x1, x8, x9, x10, x103000, x103001 => if x10 < x9 then (if 0 ≤ x10 then (if x10 < (x8.length : Int) then (if ((rd_T30 x8 x10).f0) ≤ x1 then (rle_slow.l0 k x1 x8 x9 (wrap64 (x10 + 1)) ((rd_T30 x8 x10).f1.f0) ((rd_T30 x8 x10).f1.f1)) else (rle_slow.l0 k x1 x8 x9 (wrap64 (x10 + 1)) x103000 x103001)) else (none)) else (none)) else (some (x103000, x103001))
def rle_slow.f (k : Nat) (l0 : List (S30)) (a1 : Int) : Option (Int × Int) := rle_slow.l0 k a1 l0 (l0.length : Int) 0 0 0
theorem rle_slow.mono_l : ∀ k, (∀ y0 y1 y2 y3 y4 y5, LeO (rle_slow.l0 k y0 y1 y2 y3 y4 y5) (rle_slow.l0 (k + 1) y0 y1 y2 y3 y4 y5))
  | 0 => fun _ _ _ _ _ _ r h => by simp [rle_slow.l0] at h
  | k + 1 => by
    have ih0 := rle_slow.mono_l k
    · intro y0 y1 y2 y3 y4 y5
      unfold rle_slow.l0
      repeat' first
      | (with_reducible exact ih0 _ _ _ _ _ _)
      | (with_reducible exact LeO.refl _)
      | (with_reducible exact LeO.none _)
      | (with_reducible refine LeO.ite ?_ ?_)
      | (with_reducible refine LeO.bind ?_ (fun _ => ?_))
      | exact ih0 _ _ _ _ _ _
      | exact LeO.none _
      | refine LeO.ite ?_ ?_
      | refine LeO.bind ?_ (fun _ => ?_)
theorem rle_slow.mono : ∀ a0 a1 k, LeO (rle_slow.f k a0 a1) (rle_slow.f (k + 1) a0 a1) := by
  intro a0 a1 k
  have ih0 := rle_slow.mono_l k
  unfold rle_slow.f
  repeat' first
      | (with_reducible exact ih0 _ _ _ _ _ _)
      | (with_reducible exact LeO.refl _)
      | (with_reducible exact LeO.none _)
      | (with_reducible refine LeO.ite ?_ ?_)
      | (with_reducible refine LeO.bind ?_ (fun _ => ?_))
      | exact ih0 _ _ _ _ _ _
      | exact LeO.none _
      | refine LeO.ite ?_ ?_
      | refine LeO.bind ?_ (fun _ => ?_)
set_option maxHeartbeats 8000000 in
set_option maxRecDepth 100000 in
theorem rle_slow.calls (k : Nat) (A0 : Option Addr) (c0 : Nat) (l0 : List (S30)) (a1 : Int) (r1 : Int) (r2 : Int) (w : World) (hr0 : Kd.C k30 w A0 l0.length l0) (hc0 : l0.length ≤ c0) (h : rle_slow.f k l0 a1 = some (r1, r2)) :
    Calls Try.prog 58 #[.slice A0 l0.length c0, .int .i64 a1] w fun e w' => e = .returned (.agg #[.int .i64 r1, .int .i64 r2]) ∧ Below w.heap.size w w' := by
  have hu28 := Try.underlying28
  have hu30 := Try.underlying30
  have HR0 := Aside0.mk hr0
  have HC0 := Aside0.mk hc0
  clear hr0 hc0
  have HB := Aside0.mk (Below.refl w.heap.size w)
  have H : (rle_slow.l0 k a1 l0 (l0.length : Int) 0 0 0) = some (r1, r2) := h
  clear h
  have H' := Aside0.mk H
  clear H
  go_enter Try.func58, Try.ntmps58
  go_wp2_with (first | ((with_reducible refine gate_dst (N := 4) rfl ?_); refine box_event ?hg (N := 4) ?hd (cs := #[.int .i64 0, .int .i64 0]) (t := 28) ?hr ?_; (case hd => rfl); (case hg => rfl); (case hr => first | (go_simp; done) | (go_simp; rfl)); intro gb101 hg w3 hbox hb; have n0_ := Aside0.mk (below_step (by repeat (first | (with_reducible first | exact HB.out | apply below_alloc | apply pw_below_drewN | apply below_drew1) | exact HB.out)) hb); have n1_ := Aside0.mk (hbox); have n2_ := Aside0.mk ((by rw [hg]; exact (below_size (by repeat (first | (with_reducible first | exact HB.out | apply below_alloc | apply pw_below_drewN | apply below_drew1) | exact HB.out))) : w.heap.size ≤ gb101)); have n3_ := Aside0.mk ((by rw [hg]; exact (below_size (by repeat (first | (with_reducible first | exact HB.out | apply below_alloc | apply pw_below_drewN | apply below_drew1) | exact HB.out))) : w.heap.size ≤ gb101)); clear HB; have HB := n0_; have BK101 := n1_; have GW101 := n2_; have GE101 := n3_; clear n0_ n1_ n2_ n3_; clear hb hbox hg) | ((with_reducible refine gate_dst (N := 5) rfl ?_); refine box_event ?hg (N := 5) ?hd (cs := #[.int .i64 0, .int .i64 0]) (t := 28) ?hr ?_; (case hd => rfl); (case hg => rfl); (case hr => first | (go_simp; done) | (go_simp; rfl)); intro gb102 hg w4 hbox hb; have n0_ := Aside0.mk (blk_below (g := gb101) (o := .cells #[.int .i64 0, .int .i64 0] 28 (0, 0)) (by (with_reducible repeat (first | refine blk_drewN ?_ _ | refine blk_drew ?_ | refine blk_alloc ?_ _)); exact BK101.out) hb); have n1_ := Aside0.mk (below_step (by repeat (first | (with_reducible first | exact HB.out | apply below_alloc | apply pw_below_drewN | apply below_drew1 | refine below_set ?_ GE101.out) | exact HB.out)) hb); have n2_ := Aside0.mk (hbox); have n3_ := Aside0.mk ((by rw [hg]; exact (below_size (by repeat (first | (with_reducible first | exact HB.out | apply below_alloc | apply pw_below_drewN | apply below_drew1 | refine below_set ?_ GE101.out) | exact HB.out))) : w.heap.size ≤ gb102)); have n4_ := Aside0.mk ((by rw [hg]; exact (below_size (by repeat (first | (with_reducible first | exact HB.out | apply below_alloc | apply pw_below_drewN | apply below_drew1 | refine below_set ?_ GE101.out) | exact HB.out))) : w.heap.size ≤ gb102)); have n5_ := Aside0.mk ((by rw [hg]; exact Nat.ne_of_lt (blk_lt (g := gb101) (o := .cells #[.int .i64 0, .int .i64 0] 28 (0, 0)) (by (with_reducible repeat (first | refine blk_drewN ?_ _ | refine blk_drew ?_ | refine blk_alloc ?_ _)); exact BK101.out)) : gb101 ≠ gb102)); have n6_ := Aside0.mk ((by rw [hg]; exact Nat.ne_of_gt (blk_lt (g := gb101) (o := .cells #[.int .i64 0, .int .i64 0] 28 (0, 0)) (by (with_reducible repeat (first | refine blk_drewN ?_ _ | refine blk_drew ?_ | refine blk_alloc ?_ _)); exact BK101.out)) : gb102 ≠ gb101)); clear BK101; clear HB; have BK101 := n0_; have HB := n1_; have BK102 := n2_; have GW102 := n3_; have GE102 := n4_; have NB101_102 := n5_; have NB102_101 := n6_; clear n0_ n1_ n2_ n3_ n4_ n5_ n6_; clear hb hbox hg))
  go_loopg [10] k (fun kq v10 w' => ∃ (x10_1 : Int) (x103000_1 : Int) (x103001_1 : Int), v10 = .int .i64 x10_1 ∧ Aside0 (rle_slow.l0 kq a1 l0 (l0.length : Int) x10_1 x103000_1 x103001_1 = some (r1, r2)) ∧ Aside0 (kq ≤ k) ∧ Aside0 (w'.heap[gb101]? = some (.cells #[.int .i64 0, .int .i64 0] 28 (0, 0))) ∧ Aside0 (w'.heap[gb102]? = some (.cells #[.int .i64 x103000_1, .int .i64 x103001_1] 28 (0, 0))) ∧ Aside0 (Below w.heap.size w w'))
  case atStart => exact ⟨(0), (0), (0), (by first | rfl | (simp; done) | (simp [*]; done)), H', ⟨Nat.le_refl _⟩, ⟨by (with_reducible repeat (first | refine blk_drewN ?_ _ | refine blk_drew ?_ | refine blk_alloc ?_ _)); exact BK101.out⟩, ⟨by (with_reducible repeat (first | refine blk_drewN ?_ _ | refine blk_drew ?_ | refine blk_alloc ?_ _)); exact BK102.out⟩, ⟨by repeat (first | (with_reducible first | exact HB.out | apply below_alloc | apply pw_below_drewN | apply below_drew1 | refine below_set ?_ GE101.out | refine below_set ?_ GE102.out) | exact HB.out)⟩⟩
  case round =>
    clear H'
    try clear p2
    obtain ⟨x10_1, x103000_1, x103001_1, rfl, HA, HK1, BK101, BK102, HB⟩ := hrel
    cases gk with
    | zero => exact absurd HA.out (by simp [rle_slow.l0])
    | succ k1 =>
      have H := HA.out
      clear HA
      simp only [rle_slow.l0] at H
      by_cases c5 : x10_1 < (l0.length : Int)
      · rw [if_pos c5] at H
        have c5b0 : decide (x10_1 < (l0.length : Int)) = true := decide_eq_true c5
        clear c5
        by_cases c6 : 0 ≤ x10_1
        · rw [if_pos c6] at H
          have c6b0 : decide (0 ≤ x10_1) = true := decide_eq_true c6
          clear c6
          by_cases c7 : x10_1 < (l0.length : Int)
          · rw [if_pos c7] at H
            have c7b0 : decide (x10_1 < (l0.length : Int)) = true := decide_eq_true c7
            clear c7
            by_cases c8 : ((rd_T30 l0 x10_1).f0) ≤ a1
            · rw [if_pos c8] at H
              have c8b0 : decide (((rd_T30 l0 x10_1).f0) ≤ a1) = true := decide_eq_true c8
              clear c8
              have H' := Aside0.mk H
              clear H
              have p103 : 0 ≤ (x10_1 : Int) := of_decide_eq_true (by first | (with_reducible assumption) | assumption)
              have q103 : x10_1 < (l0.length : Int) := of_decide_eq_true (by first | (with_reducible assumption) | assumption)
              obtain ⟨ad103, e103, hx103_0, hx103_1, hx103_2⟩ := at_T30 HR0.out x10_1 p103 q103
              cases e103
              replace hx103_0 := (HB.out.cell (World.block_lt_of_cell? w _ hx103_0)).trans hx103_0
              replace hx103_1 := (HB.out.cell (World.block_lt_of_cell? w _ hx103_1)).trans hx103_1
              replace hx103_2 := (HB.out.cell (World.block_lt_of_cell? w _ hx103_2)).trans hx103_2
              replace p103 := eq_true p103
              replace q103 := eq_true q103
              go_wp2_with (first | ((with_reducible refine gate_dst (N := 7) rfl ?_); refine box_event ?hg (N := 7) ?hd (cs := #[.int .i64 0, .int .i64 0, .int .i64 0]) (t := 30) ?hr ?_; (case hd => rfl); (case hg => rfl); (case hr => first | (go_simp; done) | (go_simp; rfl)); intro gb104 hg w9 hbox hb; have n0_ := Aside0.mk (blk_below (g := gb101) (o := .cells #[.int .i64 0, .int .i64 0] 28 (0, 0)) (by (with_reducible repeat (first | refine blk_drewN ?_ _ | refine blk_drew ?_ | refine blk_alloc ?_ _)); exact BK101.out) hb); have n1_ := Aside0.mk (blk_below (g := gb102) (o := .cells #[.int .i64 x103000_1, .int .i64 x103001_1] 28 (0, 0)) (by (with_reducible repeat (first | refine blk_drewN ?_ _ | refine blk_drew ?_ | refine blk_alloc ?_ _)); exact BK102.out) hb); have n2_ := Aside0.mk (below_step (by repeat (first | (with_reducible first | exact HB.out | apply below_alloc | apply pw_below_drewN | apply below_drew1 | refine below_set ?_ GE101.out | refine below_set ?_ GE102.out) | exact HB.out)) hb); have n3_ := Aside0.mk (hbox); have n4_ := Aside0.mk ((by rw [hg]; exact (below_size (by repeat (first | (with_reducible first | exact HB.out | apply below_alloc | apply pw_below_drewN | apply below_drew1 | refine below_set ?_ GE101.out | refine below_set ?_ GE102.out) | exact HB.out))) : w.heap.size ≤ gb104)); have n5_ := Aside0.mk ((by rw [hg]; exact (below_size (by repeat (first | (with_reducible first | exact HB.out | apply below_alloc | apply pw_below_drewN | apply below_drew1 | refine below_set ?_ GE101.out | refine below_set ?_ GE102.out) | exact HB.out))) : w.heap.size ≤ gb104)); have n6_ := Aside0.mk ((by rw [hg]; exact Nat.ne_of_lt (blk_lt (g := gb101) (o := .cells #[.int .i64 0, .int .i64 0] 28 (0, 0)) (by (with_reducible repeat (first | refine blk_drewN ?_ _ | refine blk_drew ?_ | refine blk_alloc ?_ _)); exact BK101.out)) : gb101 ≠ gb104)); have n7_ := Aside0.mk ((by rw [hg]; exact Nat.ne_of_gt (blk_lt (g := gb101) (o := .cells #[.int .i64 0, .int .i64 0] 28 (0, 0)) (by (with_reducible repeat (first | refine blk_drewN ?_ _ | refine blk_drew ?_ | refine blk_alloc ?_ _)); exact BK101.out)) : gb104 ≠ gb101)); have n8_ := Aside0.mk ((by rw [hg]; exact Nat.ne_of_lt (blk_lt (g := gb102) (o := .cells #[.int .i64 x103000_1, .int .i64 x103001_1] 28 (0, 0)) (by (with_reducible repeat (first | refine blk_drewN ?_ _ | refine blk_drew ?_ | refine blk_alloc ?_ _)); exact BK102.out)) : gb102 ≠ gb104)); have n9_ := Aside0.mk ((by rw [hg]; exact Nat.ne_of_gt (blk_lt (g := gb102) (o := .cells #[.int .i64 x103000_1, .int .i64 x103001_1] 28 (0, 0)) (by (with_reducible repeat (first | refine blk_drewN ?_ _ | refine blk_drew ?_ | refine blk_alloc ?_ _)); exact BK102.out)) : gb104 ≠ gb102)); clear BK101; clear BK102; clear HB; have BK101 := n0_; have BK102 := n1_; have HB := n2_; have BK104 := n3_; have GW104 := n4_; have GE104 := n5_; have NB101_104 := n6_; have NB104_101 := n7_; have NB102_104 := n8_; have NB104_102 := n9_; clear n0_ n1_ n2_ n3_ n4_ n5_ n6_ n7_ n8_ n9_; clear hb hbox hg; have hnb10 := NB104_101.out; have hnc10 := NB101_104.out; have hnb11 := NB104_102.out; have hnc11 := NB102_104.out; have hcz12_0 : w9.cell? ⟨gb104, 0, none⟩ = some (.int .i64 0) := (blk_cell BK104.out 0).trans rfl; have hcz12_1 : w9.cell? ⟨gb104, 1, none⟩ = some (.int .i64 0) := (blk_cell BK104.out 1).trans rfl; have hcz12_2 : w9.cell? ⟨gb104, 2, none⟩ = some (.int .i64 0) := (blk_cell BK104.out 2).trans rfl; have hfz12_0 := blk_frozen BK104.out 0; have hfz12_1 := blk_frozen BK104.out 1; have hfz12_2 := blk_frozen BK104.out 2; have hnb13 := NB102_101.out; have hnc13 := NB101_102.out; have hcz14_0 : w9.cell? ⟨gb102, 0, none⟩ = some (.int .i64 x103000_1) := (blk_cell BK102.out 0).trans rfl; have hcz14_1 : w9.cell? ⟨gb102, 1, none⟩ = some (.int .i64 x103001_1) := (blk_cell BK102.out 1).trans rfl; have hfz14_0 := blk_frozen BK102.out 0; have hfz14_1 := blk_frozen BK102.out 1))
              go_roundg k1
              case measure => have := HK1.out; omega
              case rel => exact ⟨(wrap64 (x10_1 + 1)), ((rd_T30 l0 x10_1).f1.f0), ((rd_T30 l0 x10_1).f1.f1), (by first | rfl | (simp; done) | (simp [*]; done)), H', ⟨by have := HK1.out; omega⟩, ⟨by (with_reducible repeat (first | refine blk_drewN ?_ _ | refine blk_drew ?_ | refine blk_alloc ?_ _)); refine blk_far ?_ NB101_102.out _; (with_reducible repeat (first | refine blk_drewN ?_ _ | refine blk_drew ?_ | refine blk_alloc ?_ _)); refine blk_far ?_ NB101_102.out _; (with_reducible repeat (first | refine blk_drewN ?_ _ | refine blk_drew ?_ | refine blk_alloc ?_ _)); refine blk_far ?_ NB101_104.out _; (with_reducible repeat (first | refine blk_drewN ?_ _ | refine blk_drew ?_ | refine blk_alloc ?_ _)); refine blk_far ?_ NB101_104.out _; (with_reducible repeat (first | refine blk_drewN ?_ _ | refine blk_drew ?_ | refine blk_alloc ?_ _)); refine blk_far ?_ NB101_104.out _; (with_reducible repeat (first | refine blk_drewN ?_ _ | refine blk_drew ?_ | refine blk_alloc ?_ _)); exact BK101.out⟩, ⟨by (with_reducible repeat (first | refine blk_drewN ?_ _ | refine blk_drew ?_ | refine blk_alloc ?_ _)); refine blk_put (cs := #[.int .i64 ((rd_T30 l0 x10_1).f1.f0), .int .i64 x103001_1]) ?_ 1 _ rfl; (with_reducible repeat (first | refine blk_drewN ?_ _ | refine blk_drew ?_ | refine blk_alloc ?_ _)); refine blk_put (cs := #[.int .i64 x103000_1, .int .i64 x103001_1]) ?_ 0 _ rfl; (with_reducible repeat (first | refine blk_drewN ?_ _ | refine blk_drew ?_ | refine blk_alloc ?_ _)); refine blk_far ?_ NB102_104.out _; (with_reducible repeat (first | refine blk_drewN ?_ _ | refine blk_drew ?_ | refine blk_alloc ?_ _)); refine blk_far ?_ NB102_104.out _; (with_reducible repeat (first | refine blk_drewN ?_ _ | refine blk_drew ?_ | refine blk_alloc ?_ _)); refine blk_far ?_ NB102_104.out _; (with_reducible repeat (first | refine blk_drewN ?_ _ | refine blk_drew ?_ | refine blk_alloc ?_ _)); exact BK102.out⟩, ⟨by repeat (first | (with_reducible first | exact HB.out | apply below_alloc | apply pw_below_drewN | apply below_drew1 | refine below_set ?_ GE101.out | refine below_set ?_ GE102.out | refine below_set ?_ GE104.out) | exact HB.out)⟩⟩
            · rw [if_neg c8] at H
              have c8b0 : decide (((rd_T30 l0 x10_1).f0) ≤ a1) = false := decide_eq_false c8
              clear c8
              have H' := Aside0.mk H
              clear H
              have p103 : 0 ≤ (x10_1 : Int) := of_decide_eq_true (by first | (with_reducible assumption) | assumption)
              have q103 : x10_1 < (l0.length : Int) := of_decide_eq_true (by first | (with_reducible assumption) | assumption)
              obtain ⟨ad103, e103, hx103_0, hx103_1, hx103_2⟩ := at_T30 HR0.out x10_1 p103 q103
              cases e103
              replace hx103_0 := (HB.out.cell (World.block_lt_of_cell? w _ hx103_0)).trans hx103_0
              replace hx103_1 := (HB.out.cell (World.block_lt_of_cell? w _ hx103_1)).trans hx103_1
              replace hx103_2 := (HB.out.cell (World.block_lt_of_cell? w _ hx103_2)).trans hx103_2
              replace p103 := eq_true p103
              replace q103 := eq_true q103
              go_wp2_with (first | ((with_reducible refine gate_dst (N := 7) rfl ?_); refine box_event ?hg (N := 7) ?hd (cs := #[.int .i64 0, .int .i64 0, .int .i64 0]) (t := 30) ?hr ?_; (case hd => rfl); (case hg => rfl); (case hr => first | (go_simp; done) | (go_simp; rfl)); intro gb104 hg w15 hbox hb; have n0_ := Aside0.mk (blk_below (g := gb101) (o := .cells #[.int .i64 0, .int .i64 0] 28 (0, 0)) (by (with_reducible repeat (first | refine blk_drewN ?_ _ | refine blk_drew ?_ | refine blk_alloc ?_ _)); exact BK101.out) hb); have n1_ := Aside0.mk (blk_below (g := gb102) (o := .cells #[.int .i64 x103000_1, .int .i64 x103001_1] 28 (0, 0)) (by (with_reducible repeat (first | refine blk_drewN ?_ _ | refine blk_drew ?_ | refine blk_alloc ?_ _)); exact BK102.out) hb); have n2_ := Aside0.mk (below_step (by repeat (first | (with_reducible first | exact HB.out | apply below_alloc | apply pw_below_drewN | apply below_drew1 | refine below_set ?_ GE101.out | refine below_set ?_ GE102.out) | exact HB.out)) hb); have n3_ := Aside0.mk (hbox); have n4_ := Aside0.mk ((by rw [hg]; exact (below_size (by repeat (first | (with_reducible first | exact HB.out | apply below_alloc | apply pw_below_drewN | apply below_drew1 | refine below_set ?_ GE101.out | refine below_set ?_ GE102.out) | exact HB.out))) : w.heap.size ≤ gb104)); have n5_ := Aside0.mk ((by rw [hg]; exact (below_size (by repeat (first | (with_reducible first | exact HB.out | apply below_alloc | apply pw_below_drewN | apply below_drew1 | refine below_set ?_ GE101.out | refine below_set ?_ GE102.out) | exact HB.out))) : w.heap.size ≤ gb104)); have n6_ := Aside0.mk ((by rw [hg]; exact Nat.ne_of_lt (blk_lt (g := gb101) (o := .cells #[.int .i64 0, .int .i64 0] 28 (0, 0)) (by (with_reducible repeat (first | refine blk_drewN ?_ _ | refine blk_drew ?_ | refine blk_alloc ?_ _)); exact BK101.out)) : gb101 ≠ gb104)); have n7_ := Aside0.mk ((by rw [hg]; exact Nat.ne_of_gt (blk_lt (g := gb101) (o := .cells #[.int .i64 0, .int .i64 0] 28 (0, 0)) (by (with_reducible repeat (first | refine blk_drewN ?_ _ | refine blk_drew ?_ | refine blk_alloc ?_ _)); exact BK101.out)) : gb104 ≠ gb101)); have n8_ := Aside0.mk ((by rw [hg]; exact Nat.ne_of_lt (blk_lt (g := gb102) (o := .cells #[.int .i64 x103000_1, .int .i64 x103001_1] 28 (0, 0)) (by (with_reducible repeat (first | refine blk_drewN ?_ _ | refine blk_drew ?_ | refine blk_alloc ?_ _)); exact BK102.out)) : gb102 ≠ gb104)); have n9_ := Aside0.mk ((by rw [hg]; exact Nat.ne_of_gt (blk_lt (g := gb102) (o := .cells #[.int .i64 x103000_1, .int .i64 x103001_1] 28 (0, 0)) (by (with_reducible repeat (first | refine blk_drewN ?_ _ | refine blk_drew ?_ | refine blk_alloc ?_ _)); exact BK102.out)) : gb104 ≠ gb102)); clear BK101; clear BK102; clear HB; have BK101 := n0_; have BK102 := n1_; have HB := n2_; have BK104 := n3_; have GW104 := n4_; have GE104 := n5_; have NB101_104 := n6_; have NB104_101 := n7_; have NB102_104 := n8_; have NB104_102 := n9_; clear n0_ n1_ n2_ n3_ n4_ n5_ n6_ n7_ n8_ n9_; clear hb hbox hg; have hnb16 := NB104_101.out; have hnc16 := NB101_104.out; have hnb17 := NB104_102.out; have hnc17 := NB102_104.out; have hcz18_0 : w15.cell? ⟨gb104, 0, none⟩ = some (.int .i64 0) := (blk_cell BK104.out 0).trans rfl; have hcz18_1 : w15.cell? ⟨gb104, 1, none⟩ = some (.int .i64 0) := (blk_cell BK104.out 1).trans rfl; have hcz18_2 : w15.cell? ⟨gb104, 2, none⟩ = some (.int .i64 0) := (blk_cell BK104.out 2).trans rfl; have hfz18_0 := blk_frozen BK104.out 0; have hfz18_1 := blk_frozen BK104.out 1; have hfz18_2 := blk_frozen BK104.out 2))
              go_roundg k1
              case measure => have := HK1.out; omega
              case rel => exact ⟨(wrap64 (x10_1 + 1)), (x103000_1), (x103001_1), (by first | rfl | (simp; done) | (simp [*]; done)), H', ⟨by have := HK1.out; omega⟩, ⟨by (with_reducible repeat (first | refine blk_drewN ?_ _ | refine blk_drew ?_ | refine blk_alloc ?_ _)); refine blk_far ?_ NB101_104.out _; (with_reducible repeat (first | refine blk_drewN ?_ _ | refine blk_drew ?_ | refine blk_alloc ?_ _)); refine blk_far ?_ NB101_104.out _; (with_reducible repeat (first | refine blk_drewN ?_ _ | refine blk_drew ?_ | refine blk_alloc ?_ _)); refine blk_far ?_ NB101_104.out _; (with_reducible repeat (first | refine blk_drewN ?_ _ | refine blk_drew ?_ | refine blk_alloc ?_ _)); exact BK101.out⟩, ⟨by (with_reducible repeat (first | refine blk_drewN ?_ _ | refine blk_drew ?_ | refine blk_alloc ?_ _)); refine blk_far ?_ NB102_104.out _; (with_reducible repeat (first | refine blk_drewN ?_ _ | refine blk_drew ?_ | refine blk_alloc ?_ _)); refine blk_far ?_ NB102_104.out _; (with_reducible repeat (first | refine blk_drewN ?_ _ | refine blk_drew ?_ | refine blk_alloc ?_ _)); refine blk_far ?_ NB102_104.out _; (with_reducible repeat (first | refine blk_drewN ?_ _ | refine blk_drew ?_ | refine blk_alloc ?_ _)); exact BK102.out⟩, ⟨by repeat (first | (with_reducible first | exact HB.out | apply below_alloc | apply pw_below_drewN | apply below_drew1 | refine below_set ?_ GE101.out | refine below_set ?_ GE102.out | refine below_set ?_ GE104.out) | exact HB.out)⟩⟩
          · rw [if_neg c7] at H
            exact absurd H (by simp)
        · rw [if_neg c6] at H
          exact absurd H (by simp)
      · rw [if_neg c5] at H
        have c5b0 : decide (x10_1 < (l0.length : Int)) = false := decide_eq_false c5
        clear c5
        simp only [Option.some.injEq, Prod.mk.injEq] at H
        obtain ⟨rfl, rfl⟩ := H
        have hnb19 := NB102_101.out
        have hnc19 := NB101_102.out
        have hcz20_0 : wr.cell? ⟨gb102, 0, none⟩ = some (.int .i64 x103000_1) := (blk_cell BK102.out 0).trans rfl
        have hcz20_1 : wr.cell? ⟨gb102, 1, none⟩ = some (.int .i64 x103001_1) := (blk_cell BK102.out 1).trans rfl
        have hfz20_0 := blk_frozen BK102.out 0
        have hfz20_1 := blk_frozen BK102.out 1
        have hcz21_0 : wr.cell? ⟨gb101, 0, none⟩ = some (.int .i64 0) := (blk_cell BK101.out 0).trans rfl
        have hcz21_1 : wr.cell? ⟨gb101, 1, none⟩ = some (.int .i64 0) := (blk_cell BK101.out 1).trans rfl
        have hfz21_0 := blk_frozen BK101.out 0
        have hfz21_1 := blk_frozen BK101.out 1
        go_wp2
        refine bodyPost_ret (results_cell_row rfl _ _ gb101 28 #[.int .i64 x103000_1, .int .i64 x103001_1] (0, 0) _ rfl (by (with_reducible repeat (first | refine blk_drewN ?_ _ | refine blk_drew ?_ | refine blk_alloc ?_ _)); refine blk_put (cs := #[.int .i64 x103000_1, .int .i64 0]) ?_ 1 _ rfl; (with_reducible repeat (first | refine blk_drewN ?_ _ | refine blk_drew ?_ | refine blk_alloc ?_ _)); refine blk_put (cs := #[.int .i64 0, .int .i64 0]) ?_ 0 _ rfl; (with_reducible repeat (first | refine blk_drewN ?_ _ | refine blk_drew ?_ | refine blk_alloc ?_ _)); exact BK101.out) Try.underlying28 rfl (by kernel_rfl)) rfl ?_
        exact ⟨by first | rfl | (simp [errW_none, errW_some] <;> rfl) | (simp [*, errW_none, errW_some] <;> rfl), by repeat (first | (with_reducible first | exact HB.out | apply below_alloc | apply pw_below_drewN | apply below_drew1 | refine below_set ?_ GE101.out | refine below_set ?_ GE102.out) | exact HB.out)⟩

end Go.Proofs.Ytddbnncimggogaa.Pb
end
section
/- rle.At: the value at a time. -/
namespace Go.Proofs.Ytddbnncimggogaa.Lv
open Go.RowKit Go.Proofs.YtddbnncimggogaaW.PrintWords Go.Proofs.YtddbnncimggogaaW.PrintLast Go.Proofs.YtddbnncimggogaaW.PrintMore Go.Proofs.Ytddbnncimggogaa.Pb
/-- Do runs rise (not strictly) from place i on downwards. -/
def Up (xs : List Seg) (i : Nat) : Prop := ∀ j, i ≤ j → j + 1 < xs.length → (rd_T30 xs j).f0 ≤ (rd_T30 xs (j + 1)).f0
noncomputable def upB (xs : List Seg) : Bool := @decide (Up xs 0) (Classical.propDecidable _)
theorem upB_true {xs : List Seg} (h : Up xs 0) : upB xs = true := by unfold upB; exact @decide_eq_true _ (Classical.propDecidable _) h
theorem upB_false {xs : List Seg} (h : ¬ Up xs 0) : upB xs = false := by unfold upB; exact @decide_eq_false _ (Classical.propDecidable _) h
set_option maxHeartbeats 400000 in
set_option maxRecDepth 100000 in
theorem isSorted_calls (A : Option Addr) (c : Nat) (xs : List Seg) (rv : Value) (w : World) (hr : Kd.C kSeg w A xs.length xs) (hn : xs.length ≤ 9223372036854775807) :
    Calls Try.prog 105 #[.slice A xs.length c, .func (.func 103) #[rv] #[]] w fun e w' => e = .returned (.bool (upB xs)) ∧ Below w.heap.size w w' := by
  have hu30 := Try.underlying30
  have hcmp := fun (x y : Seg) W => compare_calls rv x y W
  unfold segV at hcmp
  have HCM := Aside0.mk hcmp
  have HR := Aside0.mk hr
  clear hcmp hr
  go_enter Try.func105, Try.ntmps105
  go_wp2
  by_cases h0 : xs.length = 0
  · obtain rfl : xs = [] := List.eq_nil_of_length_eq_zero h0
    have hd : decide ((0 : Int) < ((([] : List Seg).length : Nat) : Int) - 1) = false := by simp
    go_loopw [5] (fun v5 wr => v5 = .int .i64 (-1) ∧ Below w.heap.size w wr) (fun v5 _ => 0)
    case atStart => exact ⟨by simp, Below.refl _ _⟩
    case round =>
      obtain ⟨rfl, hB⟩ := hrel
      go_wp2
      go_ret
      exact ⟨bool_eq (upB_true (fun j h1 h2 => by simp at h2)).symm, hB⟩
  go_loopw [5] (fun v5 wr => ∃ k : Int, 0 ≤ k ∧ k < xs.length ∧ v5 = .int .i64 k ∧ Below w.heap.size w wr ∧ Up xs k.toNat) (fun v5 _ => (intOf v5).toNat)
  case atStart => exact ⟨xs.length - 1, by omega, by omega, rfl, Below.refl _ _, fun j h1 h2 => by omega⟩
  case round =>
    obtain ⟨k, hk0, hk, rfl, hB, hup⟩ := hrel
    have hcr := Kd.C_below HR.out hB
    by_cases hpos : 0 < k
    · obtain ⟨ad, e, hx0, hx1, hx2⟩ := at_T30 hcr k (by omega) (by omega)
      obtain ⟨m, hm⟩ : ∃ m, m = k - 1 := ⟨_, rfl⟩
      have hw : IntKind.i64.wrap (k - 1) = m := by rw [IntKind.wrap_i64]; omega
      have hq0 : 0 ≤ m := by omega
      have hq1 : m < xs.length := by omega
      obtain ⟨ad', e', hy0, hy1, hy2⟩ := at_T30 hcr m hq0 hq1
      have HM := Aside0.mk hm
      clear hm
      rw [e] at e'
      cases e'
      cases e
      have x0 := fun p : InB wr => InB.cell hx0 p
      have x1 := fun p : InB wr => InB.cell hx1 p
      have x2 := fun p : InB wr => InB.cell hx2 p
      have y0 := fun p : InB wr => InB.cell hy0 p
      have y1 := fun p : InB wr => InB.cell hy1 p
      have y2 := fun p : InB wr => InB.cell hy2 p
      clear hx0 hx1 hx2 hy0 hy1 hy2 hcr
      have HBB := Aside0.mk hB
      have HUP := Aside0.mk hup
      clear hB hup
      go_wp2_with fail
      refine wp_region_inB (by kernel_rfl) (by kernel_rfl) ?_
      repeat (quiet_step ((go_at_call 103; exact Calls.inB (HCM.out _ _ _))))
      refine wpQuiet_nil ?_
      rintro _ ⟨⟨w1, hb1⟩, rfl⟩
      try dsimp only
      clear x0 x1 x2 y0 y1 y2 hw hq0 hq1
      obtain rfl := HM.out
      clear HM
      by_cases hc : cmpS (rd_T30 xs k) (rd_T30 xs (k - 1)) < 0
      · have hd : decide (cmpS (rd_T30 xs k) (rd_T30 xs (k - 1)) < 0) = true := decide_eq_true hc
        go_wp2
        go_ret
        refine ⟨bool_eq (upB_false ?_).symm, below_step HBB.out hb1⟩
        have hlt : (rd_T30 xs k).f0 < (rd_T30 xs (k - 1)).f0 := by
          unfold cmpS at hc; split at hc
          · assumption
          · split at hc <;> omega
        intro hu
        have h1 := hu (k.toNat - 1) (Nat.zero_le _) (by omega)
        have e1 : ((k.toNat - 1 : Nat) : Int) = k - 1 := by omega
        rw [e1] at h1
        have e2 : k - 1 + 1 = k := by omega
        rw [e2] at h1
        omega
      · have hd : decide (cmpS (rd_T30 xs k) (rd_T30 xs (k - 1)) < 0) = false := decide_eq_false hc
        go_wp2
        go_roundw
        case rel =>
          refine ⟨k - 1, by omega, by omega, rfl, below_step HBB.out hb1, ?_⟩
          intro j h1 h2
          by_cases hj : j = (k - 1).toNat
          · subst hj
            have e1 : (((k - 1).toNat : Nat) : Int) = k - 1 := by omega
            rw [e1, show k - 1 + 1 = k by omega]
            unfold cmpS at hc
            split at hc
            · omega
            · omega
          · exact HUP.out j (by omega) h2
        case measure => simp [intOf]; omega
    · obtain rfl : k = 0 := by omega
      go_wp2
      go_ret
      exact ⟨bool_eq (upB_true (by simpa using hup)).symm, hB⟩
set_option maxHeartbeats 400000 in
set_option maxRecDepth 100000 in
theorem rises_calls (A : Option Addr) (c : Nat) (xs : List Seg) (w : World) (hr : Kd.C kSeg w A xs.length xs) (hn : xs.length ≤ 9223372036854775807) :
    Calls Try.prog 57 #[.slice A xs.length c] w fun e w' => e = .returned (.bool (upB xs)) ∧ Below w.heap.size w w' := by
  have H := isSorted_calls A c xs (.slice A xs.length c) w hr hn
  clear hr
  go_enter Try.func57, Try.ntmps57
  go_wp2_with fail
  refine H.mono ?_
  rintro e w1 ⟨rfl, hb⟩
  clear H
  go_wp2
  go_ret
  exact ⟨rfl, hb⟩
/-- The value at a time: of the last run that begins by then. -/
def atF (xs : List Seg) (t : Int) : Vec := xs.foldl (fun v x => if x.f0 ≤ t then x.f1 else v) z28
theorem slow_l0 (t : Int) (xs : List Seg) (hn : xs.length ≤ 9223372036854775807) (d : Nat) : ∀ (k : Nat) (i : Nat) (v : Vec), i + d = xs.length → d < k →
    rle_slow.l0 k t xs (xs.length : Int) (i : Int) v.f0 v.f1 = some (((xs.drop i).foldl (fun v x => if x.f0 ≤ t then x.f1 else v) v).f0, ((xs.drop i).foldl (fun v x => if x.f0 ≤ t then x.f1 else v) v).f1) := by
  induction d with
  | zero =>
    intro k i v hi hk
    obtain ⟨k, rfl⟩ : ∃ m, k = m + 1 := ⟨k - 1, by omega⟩
    simp only [rle_slow.l0]
    rw [if_neg (by omega), List.drop_of_length_le (by omega)]
    rfl
  | succ d ih =>
    intro k i v hi hk
    obtain ⟨k, rfl⟩ : ∃ m, k = m + 1 := ⟨k - 1, by omega⟩
    have hlt : i < xs.length := by omega
    have hw : wrap64 ((i : Int) + 1) = ((i + 1 : Nat) : Int) := by unfold wrap64; omega
    have hq : rd_T30 xs (i : Int) = xs[i] := (rd_seg xs (i : Int) (by simpa using hlt)).symm
    simp only [rle_slow.l0]
    rw [if_pos (by omega), if_pos (by omega), if_pos (by omega), hq, hw]
    rw [List.drop_eq_getElem_cons hlt, List.foldl_cons]
    by_cases h : xs[i].f0 ≤ t
    · rw [if_pos h, if_pos h]
      exact ih k (i + 1) xs[i].f1 (by omega) (by omega)
    · rw [if_neg h, if_neg h]
      exact ih k (i + 1) v (by omega) (by omega)
theorem slow_calls (A : Option Addr) (c : Nat) (xs : List Seg) (t : Int) (w : World) (hr : Kd.C kSeg w A xs.length xs) (hc : xs.length ≤ c) (hn : xs.length ≤ 9223372036854775807) :
    Calls Try.prog 58 #[.slice A xs.length c, .int .i64 t] w fun e w' => e = .returned (vecV (atF xs t)) ∧ Below w.heap.size w w' :=
  rle_slow.calls (xs.length + 1) A c xs t _ _ w hr hc (by unfold rle_slow.f; exact slow_l0 t xs hn xs.length (xs.length + 1) 0 z28 (by omega) (by omega))
end Go.Proofs.Ytddbnncimggogaa.Lv
end
section
/- rle.At. -/
namespace Go.Proofs.Ytddbnncimggogaa.Lv
open Go.RowKit Go.Proofs.YtddbnncimggogaaW.PrintWords Go.Proofs.YtddbnncimggogaaW.PrintLast Go.Proofs.YtddbnncimggogaaW.PrintMore Go.Proofs.Ytddbnncimggogaa.Pb
/-- What the search between two places knows. -/
structure BS (xs : List Seg) (t lo hi : Int) : Prop where
  l0 : 0 ≤ lo
  lh : lo ≤ hi
  hn : hi ≤ xs.length
  le : ∀ j : Int, 0 ≤ j → j < lo → (rd_T30 xs j).f0 ≤ t
  gt : ∀ j : Int, hi ≤ j → j < xs.length → t < (rd_T30 xs j).f0
theorem up_le {xs : List Seg} (h : Up xs 0) : ∀ (d : Nat) (i : Nat), i + d < xs.length → (rd_T30 xs (i : Int)).f0 ≤ (rd_T30 xs ((i + d : Nat) : Int)).f0 := by
  intro d
  induction d with
  | zero => intro i hi; exact Int.le_refl _
  | succ d ih =>
    intro i hi
    have h1 := ih i (by omega)
    have h2 := h (i + d) (Nat.zero_le _) (by omega)
    have e : ((i + d : Nat) : Int) + 1 = ((i + (d + 1) : Nat) : Int) := by omega
    rw [e] at h2
    omega
theorem up_mono {xs : List Seg} (h : Up xs 0) (i j : Int) (h0 : 0 ≤ i) (hij : i ≤ j) (hj : j < xs.length) : (rd_T30 xs i).f0 ≤ (rd_T30 xs j).f0 := by
  have := up_le h (j - i).toNat i.toNat (by omega)
  have e1 : ((i.toNat : Nat) : Int) = i := by omega
  have e2 : ((i.toNat + (j - i).toNat : Nat) : Int) = j := by omega
  rwa [e1, e2] at this
theorem BS.start (xs : List Seg) (t : Int) : BS xs t 0 xs.length := ⟨by omega, by omega, by omega, fun j _ _ => by omega, fun j _ _ => by omega⟩
theorem BS.right {xs : List Seg} {t lo hi : Int} (h : BS xs t lo hi) (hu : Up xs 0) (hlt : lo < hi) (hle : (rd_T30 xs ((lo + hi) / 2)).f0 ≤ t) : BS xs t ((lo + hi) / 2 + 1) hi :=
  ⟨by have := h.l0; omega, by omega, h.hn, fun j h0 hj => Int.le_trans (up_mono hu j ((lo + hi) / 2) h0 (by omega) (by have := h.hn; omega)) hle, h.gt⟩
theorem BS.left {xs : List Seg} {t lo hi : Int} (h : BS xs t lo hi) (hu : Up xs 0) (hlt : lo < hi) (hle : t < (rd_T30 xs ((lo + hi) / 2)).f0) : BS xs t lo ((lo + hi) / 2) :=
  ⟨h.l0, by omega, by have := h.hn; omega, h.le, fun j h0 hj => Int.lt_of_lt_of_le hle (up_mono hu ((lo + hi) / 2) j (by have := h.l0; omega) h0 hj)⟩
theorem foldl_none (t : Int) (l : List Seg) (v : Vec) (h : ∀ x ∈ l, t < x.f0) : l.foldl (fun v x => if x.f0 ≤ t then x.f1 else v) v = v := by
  induction l with
  | nil => rfl
  | cons x l ih => rw [List.foldl_cons, if_neg (by have := h x (by simp); omega)]; exact ih fun y hy => h y (by simp [hy])
theorem BS.zero {xs : List Seg} {t lo hi : Int} (h : BS xs t lo hi) (hge : hi ≤ lo) (h0 : lo = 0) : atF xs t = z28 := by
  unfold atF
  refine foldl_none t xs _ fun x hx => ?_
  obtain ⟨i, hi', rfl⟩ := List.getElem_of_mem hx
  have := h.gt (i : Int) (by omega) (by omega)
  rwa [← rd_seg xs (i : Int) (by simpa using hi')] at this
theorem BS.last {xs : List Seg} {t lo hi : Int} (h : BS xs t lo hi) (hge : hi ≤ lo) (h0 : 0 < lo) : atF xs t = (rd_T30 xs (lo - 1)).f1 := by
  have hl := h.lh; have hn := h.hn
  obtain ⟨m, rfl⟩ : ∃ m : Nat, lo = (m : Int) + 1 := ⟨(lo - 1).toNat, by omega⟩
  have hm : m < xs.length := by omega
  have hsp : xs = xs.take m ++ xs[m] :: xs.drop (m + 1) := by rw [← List.drop_eq_getElem_cons hm]; simp
  have hq : rd_T30 xs ((m : Int) + 1 - 1) = xs[m] := by
    have : ((m : Int) + 1 - 1) = (m : Int) := by omega
    rw [this]; exact (rd_seg xs (m : Int) (by simpa using hm)).symm
  have hle := h.le (m : Int) (by omega) (by omega)
  rw [← rd_seg xs (m : Int) (by simpa using hm)] at hle
  rw [hq]
  unfold atF
  conv => lhs; rw [hsp]
  rw [List.foldl_append, List.foldl_cons, if_pos (by simpa using hle)]
  refine foldl_none t _ _ fun x hx => ?_
  obtain ⟨i, hi', rfl⟩ := List.getElem_of_mem hx
  have hlen : m + 1 + i < xs.length := by simp at hi'; omega
  have := h.gt ((m + 1 + i : Nat) : Int) (by omega) (by omega)
  rw [← rd_seg xs ((m + 1 + i : Nat) : Int) (by omega)] at this
  simp only [List.getElem_drop]
  exact this
set_option maxHeartbeats 1000000 in
set_option maxRecDepth 100000 in
theorem at_calls (A : Option Addr) (c : Nat) (xs : List Seg) (t : Int) (w : World) (hr : Kd.C kSeg w A xs.length xs) (hc : xs.length ≤ c) (hn : xs.length ≤ 9223372036854775807) (hn2 : xs.length ≤ 4611686018427387903) :
    Calls Try.prog 17 #[.slice A xs.length c, .int .i64 t] w fun e w' => e = .returned (vecV (atF xs t)) ∧ Below w.heap.size w w' := by
  have hu28 := Try.underlying28
  have hu30 := Try.underlying30
  have HR := Aside0.mk hr
  clear hr
  by_cases hup : Up xs 0
  · have hub := upB_true hup
    have HUP := Aside0.mk hup
    clear hup
    go_enter Try.func17, Try.ntmps17
    go_wp2_with fail
    refine wp_scope_jumps 0 (fun a' w' => Below w.heap.size w w' ∧ w'.heap[w.heap.size]? = some (.cells #[.int .i64 0, .int .i64 0] 28 (0, 0)) ∧ ∃ (lo hi : Int) (u7 u8 u9 u10 u11 u12 u13 u14 u15 u16 u17 u18 u19 u20 u21 u22 u23 u24 u25 u26 u27 u28 u29 u30 u31 u32 u33 u34 u35 u36 u37 u38 u39 u40 u41 : Value), a' = { tmps := #[.slice A xs.length c, .int .i64 t, undef, undef, .pointer (some ⟨w.heap.size, 0, none⟩), .int .i64 lo, .int .i64 hi, u7, u8, u9, u10, u11, u12, u13, u14, u15, u16, u17, u18, u19, u20, u21, u22, u23, u24, u25, u26, u27, u28, u29, u30, u31, u32, u33, u34, u35, u36, u37, u38, u39, u40, u41], defers := [] } ∧ BS xs t lo hi) (fun a' _ => (intOf (a'.tmps.getD 6 undef) - intOf (a'.tmps.getD 5 undef)).toNat) rfl ?_ ?_
    · go_wp2_with fail
      have hq := rises_calls A c xs (w.alloc (.cells #[.int .i64 0, .int .i64 0] 28)) (Kd.C_below HR.out (below_alloc (Below.refl _ _) _)) hn
      rw [hub] at hq
      refine hq.mono ?_
      rintro e w1 ⟨rfl, hb⟩
      clear hq hub
      go_wp2_with fail
      have hBW := below_step (below_alloc (Below.refl _ _) (.cells #[.int .i64 0, .int .i64 0] 28)) hb
      have hbk := blk_below (blk_new w (.cells #[.int .i64 0, .int .i64 0] 28)) hb
      have hcr := Kd.C_below HR.out hBW
      have hbs := BS.start xs t
      have BW := Aside0.mk hBW
      have BK := Aside0.mk hbk
      have hce0 : w1.cell? ⟨w.heap.size, 0, none⟩ = some (.int .i64 0) := (blk_cell hbk 0).trans rfl
      have hce1 : w1.cell? ⟨w.heap.size, 1, none⟩ = some (.int .i64 0) := (blk_cell hbk 1).trans rfl
      have hfr0 := blk_frozen hbk 0
      have hfr1 := blk_frozen hbk 1
      clear hBW hbk hb
      obtain ⟨n, hnn⟩ : ∃ n : Int, n = xs.length := ⟨_, rfl⟩
      rw [← hnn] at hbs ⊢
      have hne : n ≤ xs.length := by omega
      have hn0 : 0 ≤ n := by omega
      have hn3 : n ≤ 4611686018427387903 := by omega
      clear hnn
      go_step3
      by_cases hlt : (0 : Int) < n
      · obtain ⟨ad, e, hx0, hx1, hx2⟩ := at_T30 hcr (n / 2) (by have := hbs.l0; omega) (by have := hbs.hn; omega)
        cases e
        clear hcr
        have hl0 := hbs.l0
        have hhn := hbs.hn
        have hlh := hbs.lh
        have HBS := Aside0.mk hbs
        clear hbs
        by_cases hle : (rd_T30 xs (n / 2)).f0 ≤ t
        · have hd : decide ((rd_T30 xs (n / 2)).f0 ≤ t) = true := decide_eq_true hle
          go_wp2
          go_step3
          exact ⟨rfl, BW.out, BK.out, _, _, _, _, _, _, _, _, _, _, _, _, _, _, _, _, _, _, _, _, _, _, _, _, _, _, _, _, _, _, _, _, _, _, _, _, _, rfl, by have := HBS.out.right HUP.out hlt (by simpa using hle); simpa using this⟩
        · have hd : decide ((rd_T30 xs (n / 2)).f0 ≤ t) = false := decide_eq_false hle
          go_wp2
          go_step3
          exact ⟨rfl, BW.out, BK.out, _, _, _, _, _, _, _, _, _, _, _, _, _, _, _, _, _, _, _, _, _, _, _, _, _, _, _, _, _, _, _, _, _, _, _, _, _, rfl, by have := HBS.out.left HUP.out hlt (by simp; omega); simpa using this⟩
      · have hl0 := hbs.l0
        have hhn := hbs.hn
        have hlh := hbs.lh
        have HBS := Aside0.mk hbs
        clear hbs
        have hfin : atF xs t = z28 := HBS.out.zero (by omega) rfl
        have HF := Aside0.mk hfin
        clear hfin
        go_wp2
        try simp only [Exit.jump]
        refine bodyPost_ret (v := .agg #[.int .i64 0, .int .i64 0]) (by simp [results, Try.results17, go_sem, hce0, hce1]) rfl ⟨?_, ?_⟩
        · rw [HF.out]; rfl
        · repeat (first | exact BW.out | refine below_set ?_ (Nat.le_refl _))
    · rintro a' w1 ⟨hBW, hbk, lo, hi, u7, u8, u9, u10, u11, u12, u13, u14, u15, u16, u17, u18, u19, u20, u21, u22, u23, u24, u25, u26, u27, u28, u29, u30, u31, u32, u33, u34, u35, u36, u37, u38, u39, u40, u41, rfl, hbs⟩
      have hcr := Kd.C_below HR.out hBW
      have BW := Aside0.mk hBW
      have BK := Aside0.mk hbk
      have hce0 : w1.cell? ⟨w.heap.size, 0, none⟩ = some (.int .i64 0) := (blk_cell hbk 0).trans rfl
      have hce1 : w1.cell? ⟨w.heap.size, 1, none⟩ = some (.int .i64 0) := (blk_cell hbk 1).trans rfl
      have hfr0 := blk_frozen hbk 0
      have hfr1 := blk_frozen hbk 1
      clear hBW hbk
      by_cases hlt : lo < hi
      · obtain ⟨ad, e, hx0, hx1, hx2⟩ := at_T30 hcr ((lo + hi) / 2) (by have := hbs.l0; omega) (by have := hbs.hn; omega)
        cases e
        clear hcr
        have hl0 := hbs.l0
        have hhn := hbs.hn
        have hlh := hbs.lh
        have hb4 : hi ≤ 4611686018427387903 := by omega
        have hb5 : lo ≤ 4611686018427387903 := by omega
        have hb6 : 0 ≤ hi := by omega
        have HBS := Aside0.mk hbs
        clear hbs
        by_cases hle : (rd_T30 xs ((lo + hi) / 2)).f0 ≤ t
        · have hd : decide ((rd_T30 xs ((lo + hi) / 2)).f0 ≤ t) = true := decide_eq_true hle
          go_wp2
          go_step3
          exact ⟨rfl, ⟨BW.out, BK.out, _, _, _, _, _, _, _, _, _, _, _, _, _, _, _, _, _, _, _, _, _, _, _, _, _, _, _, _, _, _, _, _, _, _, _, _, _, rfl, HBS.out.right HUP.out hlt hle⟩, by simp [intOf]; omega⟩
        · have hd : decide ((rd_T30 xs ((lo + hi) / 2)).f0 ≤ t) = false := decide_eq_false hle
          go_wp2
          go_step3
          exact ⟨rfl, ⟨BW.out, BK.out, _, _, _, _, _, _, _, _, _, _, _, _, _, _, _, _, _, _, _, _, _, _, _, _, _, _, _, _, _, _, _, _, _, _, _, _, _, rfl, HBS.out.left HUP.out hlt (by omega)⟩, by simp [intOf]; omega⟩
      · have hl0 := hbs.l0
        have hhn := hbs.hn
        have hlh := hbs.lh
        have HBS := Aside0.mk hbs
        clear hbs
        by_cases hz : lo = 0
        · have hfin : atF xs t = z28 := HBS.out.zero (by omega) hz
          have HF := Aside0.mk hfin
          have hd : ((lo : Int) == 0) = true := by simp [hz]
          have hge : hi ≤ lo := by omega
          clear hfin hz hlt
          go_wp2
          try simp only [Exit.jump]
          refine bodyPost_ret (v := .agg #[.int .i64 0, .int .i64 0]) (by simp [results, Try.results17, go_sem, hce0, hce1]) rfl ⟨?_, ?_⟩
          · rw [HF.out]; rfl
          · repeat (first | exact BW.out | refine below_set ?_ (Nat.le_refl _))
        · have hd : ((lo : Int) == 0) = false := by simp [hz]
          have hfin : atF xs t = (rd_T30 xs (lo - 1)).f1 := HBS.out.last (by omega) (by omega)
          obtain ⟨m, hm⟩ : ∃ m, m = lo - 1 := ⟨_, rfl⟩
          rw [← hm] at hfin
          have HF := Aside0.mk hfin
          clear hfin
          obtain rfl : lo = m + 1 := by omega
          clear hm
          have hm0 : 0 ≤ m := by omega
          have hm1 : m < xs.length := by omega
          obtain ⟨ad, e, hx0, hx1, hx2⟩ := at_T30 hcr m hm0 hm1
          cases e
          have hge : hi ≤ m + 1 := by omega
          clear hcr hz hlt
          go_wp2
          try simp only [Exit.jump]
          refine bodyPost_ret (v := .agg #[.int .i64 (rd_T30 xs m).f1.f0, .int .i64 (rd_T30 xs m).f1.f1]) (by simp [results, Try.results17, go_sem, hce0, hce1]) rfl ⟨?_, ?_⟩
          · rw [HF.out]; rfl
          · repeat (first | exact BW.out | refine below_set ?_ (Nat.le_refl _))
  · have hub := upB_false hup
    clear hup
    go_enter Try.func17, Try.ntmps17
    go_wp2_with fail
    go_step3
    go_wp2_with fail
    have hq := rises_calls A c xs (w.alloc (.cells #[.int .i64 0, .int .i64 0] 28)) (Kd.C_below HR.out (below_alloc (Below.refl _ _) _)) hn
    rw [hub] at hq
    refine hq.mono ?_
    rintro e w1 ⟨rfl, hb⟩
    clear hq hub
    have hBW := below_step (below_alloc (Below.refl _ _) (.cells #[.int .i64 0, .int .i64 0] 28)) hb
    have hbk := blk_below (blk_new w (.cells #[.int .i64 0, .int .i64 0] 28)) hb
    go_wp2_with fail
    refine (slow_calls A c xs t w1 (Kd.C_below HR.out hBW) hc hn).mono ?_
    rintro e w2 ⟨rfl, hb2⟩
    have hbk2 := blk_below hbk hb2
    have BW := Aside0.mk (below_step hBW hb2)
    have hce0 : w2.cell? ⟨w.heap.size, 0, none⟩ = some (.int .i64 0) := (blk_cell hbk2 0).trans rfl
    have hce1 : w2.cell? ⟨w.heap.size, 1, none⟩ = some (.int .i64 0) := (blk_cell hbk2 1).trans rfl
    have hfr0 := blk_frozen hbk2 0
    have hfr1 := blk_frozen hbk2 1
    clear hBW hbk hbk2 hb hb2
    unfold vecV
    generalize hgr : atF xs t = r
    have HG := Aside0.mk hgr
    clear hgr
    go_wp2
    try rw [Exit.noGoto_ret]
    refine bodyPost_ret (v := .agg #[.int .i64 r.f0, .int .i64 r.f1]) (by simp [results, Try.results17, go_sem, hce0, hce1]) rfl ⟨by rw [HG.out]; rfl, ?_⟩
    repeat (first | exact BW.out | refine below_set ?_ (Nat.le_refl _))
end Go.Proofs.Ytddbnncimggogaa.Lv
end
section
/- Sorting so that what is alike keeps its order: rows, no program. -/
namespace Go.Proofs.Ytddbnncimggogaa.SP
variable {α : Type}
structure SWO (lt : α → α → Bool) : Prop where
  irr : ∀ x, lt x x = false
  neg : ∀ x y z, lt x y = false → lt y z = false → lt x z = false
  asy : ∀ x y, lt x y = true → lt y x = false
/-- Not after each other. -/
def Srt (lt : α → α → Bool) (l : List α) : Prop := l.Pairwise fun x y => lt y x = false
def eqv (lt : α → α → Bool) (x y : α) : Bool := !lt x y && !lt y x
def Stb (lt : α → α → Bool) (l m : List α) : Prop := l.length = m.length ∧ ∀ x, l.filter (eqv lt x) = m.filter (eqv lt x)
variable {lt : α → α → Bool}
theorem Stb.refl (l : List α) : Stb lt l l := ⟨rfl, fun _ => rfl⟩
theorem Stb.trans {l m n : List α} (h : Stb lt l m) (k : Stb lt m n) : Stb lt l n := ⟨h.1.trans k.1, fun x => (h.2 x).trans (k.2 x)⟩
theorem Stb.symm {l m : List α} (h : Stb lt l m) : Stb lt m l := ⟨h.1.symm, fun x => (h.2 x).symm⟩
theorem Stb.append {l m l' m' : List α} (h : Stb lt l m) (k : Stb lt l' m') : Stb lt (l ++ l') (m ++ m') :=
  ⟨by simp [h.1, k.1], fun x => by rw [List.filter_append, List.filter_append, h.2, k.2]⟩
theorem eqv_refl (o : SWO lt) (x : α) : eqv lt x x = true := by simp [eqv, o.irr]
theorem Stb.mem (o : SWO lt) {l m : List α} (h : Stb lt l m) (y : α) : y ∈ l ↔ y ∈ m := by
  have e := h.2 y
  constructor
  · intro hy
    have : y ∈ l.filter (eqv lt y) := List.mem_filter.2 ⟨hy, eqv_refl o y⟩
    rw [e] at this
    exact (List.mem_filter.1 this).1
  · intro hy
    have : y ∈ m.filter (eqv lt y) := List.mem_filter.2 ⟨hy, eqv_refl o y⟩
    rw [← e] at this
    exact (List.mem_filter.1 this).1
/-- Where each of the second is strictly ahead of each of the first, they may change places. -/
theorem Stb.cross (o : SWO lt) (l r : List α) (h : ∀ x ∈ l, ∀ y ∈ r, lt y x = true) : Stb lt (l ++ r) (r ++ l) := by
  refine ⟨by simp; omega, fun z => ?_⟩
  rw [List.filter_append, List.filter_append]
  by_cases hl : l.filter (eqv lt z) = []
  · rw [hl]; simp
  · by_cases hr : r.filter (eqv lt z) = []
    · rw [hr]; simp
    · exfalso
      obtain ⟨x, hx⟩ := List.exists_mem_of_ne_nil _ hl
      obtain ⟨y, hy⟩ := List.exists_mem_of_ne_nil _ hr
      have h1 := List.mem_filter.1 hx
      have h2 := List.mem_filter.1 hy
      have h3 := h x h1.1 y h2.1
      simp only [eqv, Bool.and_eq_true, Bool.not_eq_true'] at h1 h2
      have := o.neg y z x h2.2.2 h1.2.1
      rw [this] at h3
      cases h3
theorem Srt.nil : Srt lt ([] : List α) := List.Pairwise.nil
theorem Srt.one (x : α) : Srt lt [x] := List.pairwise_singleton _ _
theorem Srt.app {l m : List α} (h : Srt lt l) (k : Srt lt m) (c : ∀ x ∈ l, ∀ y ∈ m, lt y x = false) : Srt lt (l ++ m) := List.pairwise_append.2 ⟨h, k, c⟩
theorem Srt.left {l m : List α} (h : Srt lt (l ++ m)) : Srt lt l := (List.pairwise_append.1 h).1
theorem Srt.right {l m : List α} (h : Srt lt (l ++ m)) : Srt lt m := (List.pairwise_append.1 h).2.1
theorem Srt.mid {l m : List α} (h : Srt lt (l ++ m)) : ∀ x ∈ l, ∀ y ∈ m, lt y x = false := (List.pairwise_append.1 h).2.2
theorem srt_unique (o : SWO lt) : ∀ (l m : List α), Srt lt l → Srt lt m → Stb lt l m → l = m
  | [], m, _, _, h => by
    have := h.1
    simp at this
    exact (List.eq_nil_of_length_eq_zero this.symm).symm
  | x :: l, [], _, _, h => by have := h.1; simp at this
  | x :: l, y :: m, hl, hm, h => by
    have hl' := List.pairwise_cons.1 hl
    have hm' := List.pairwise_cons.1 hm
    have h1 : lt x y = false := by
      have : x ∈ y :: m := (h.mem o x).1 (by simp)
      rcases List.mem_cons.1 this with e | e
      · rw [e]; exact o.irr _
      · exact hm'.1 x e
    have h2 : lt y x = false := by
      have : y ∈ x :: l := (h.mem o y).2 (by simp)
      rcases List.mem_cons.1 this with e | e
      · rw [e]; exact o.irr _
      · exact hl'.1 y e
    have e := h.2 x
    rw [List.filter_cons, List.filter_cons, if_pos (eqv_refl o x), if_pos (by simp [eqv, h1, h2])] at e
    injection e with e1 _
    subst e1
    rw [srt_unique o l m hl'.2 hm'.2 ⟨by have := h.1; simpa using this, fun z => by
      have e := h.2 z
      rw [List.filter_cons, List.filter_cons] at e
      split at e
      · injection e
      · exact e⟩]
/-- The plain sort: each into its place behind what is alike. -/
def insS (lt : α → α → Bool) (x : α) : List α → List α
  | [] => [x]
  | y :: l => if lt x y then x :: y :: l else y :: insS lt x l
def sortS (lt : α → α → Bool) (l : List α) : List α := l.foldl (fun acc x => insS lt x acc) []
theorem mem_insS {x z : α} : ∀ {l : List α}, z ∈ insS lt x l ↔ z = x ∨ z ∈ l
  | [] => by simp [insS]
  | y :: l => by
    unfold insS
    split
    · simp
    · simp [mem_insS (l := l)]
      constructor
      · rintro (h | h | h) <;> simp [h]
      · rintro (h | h | h) <;> simp [h]
theorem srt_insS (o : SWO lt) (x : α) : ∀ (l : List α), Srt lt l → Srt lt (insS lt x l)
  | [], _ => Srt.one x
  | y :: l, h => by
    have h' := List.pairwise_cons.1 h
    unfold insS
    split
    · rename_i hlt
      refine List.pairwise_cons.2 ⟨fun z hz => ?_, h⟩
      rcases List.mem_cons.1 hz with rfl | hz
      · exact o.asy _ _ hlt
      · exact o.neg z y x (h'.1 z hz) (o.asy _ _ hlt)
    · rename_i hlt
      refine List.pairwise_cons.2 ⟨fun z hz => ?_, srt_insS o x l h'.2⟩
      rcases mem_insS.1 hz with rfl | hz
      · simpa using hlt
      · exact h'.1 z hz
theorem stb_insS (o : SWO lt) (x : α) : ∀ (l : List α), Srt lt l → Stb lt (l ++ [x]) (insS lt x l)
  | [], _ => Stb.refl _
  | y :: l, h => by
    have h' := List.pairwise_cons.1 h
    unfold insS
    split
    · rename_i hlt
      refine Stb.cross o (y :: l) [x] fun z hz u hu => ?_
      obtain rfl : u = x := by simpa using hu
      rcases List.mem_cons.1 hz with rfl | hz
      · exact hlt
      · cases e : lt u z
        · have := o.neg u z y e (h'.1 z hz)
          rw [this] at hlt; cases hlt
        · rfl
    · exact (Stb.refl [y]).append (stb_insS o x l h'.2)
theorem sortS_fold (o : SWO lt) : ∀ (l acc : List α), Srt lt acc → Srt lt (l.foldl (fun acc x => insS lt x acc) acc) ∧ Stb lt (acc ++ l) (l.foldl (fun acc x => insS lt x acc) acc)
  | [], acc, h => ⟨h, by simpa using Stb.refl acc⟩
  | x :: l, acc, h => by
    have ih := sortS_fold o l (insS lt x acc) (srt_insS o x acc h)
    refine ⟨ih.1, ?_⟩
    have : Stb lt (acc ++ x :: l) (insS lt x acc ++ l) := by
      have := (stb_insS o x acc h).append (Stb.refl (lt := lt) l)
      simpa using this
    exact this.trans ih.2
theorem sortS_srt (o : SWO lt) (l : List α) : Srt lt (sortS lt l) := (sortS_fold o l [] Srt.nil).1
theorem sortS_stb (o : SWO lt) (l : List α) : Stb lt l (sortS lt l) := by
  have h := (sortS_fold o l [] Srt.nil).2
  rw [List.nil_append] at h
  exact h
theorem sortS_of (o : SWO lt) {l m : List α} (h : Srt lt m) (k : Stb lt l m) : m = sortS lt l :=
  srt_unique o m _ h (sortS_srt o l) (k.symm.trans (sortS_stb o l))

/-! One step of the insertion. -/
theorem ins_swap {M2 : List α} {x y : α} (h : lt x y = true) (c : ∀ z ∈ M2, lt x z = true) : ∀ z ∈ y :: M2, lt x z = true := by
  intro z hz
  rcases List.mem_cons.1 hz with rfl | hz
  · exact h
  · exact c z hz
theorem ins_done (o : SWO lt) {P M1 M2 : List α} {x : α} (hs : Srt lt (M1 ++ M2)) (hk : Stb lt P (M1 ++ M2)) (c : ∀ z ∈ M2, lt x z = true) (e : ∀ z ∈ M1, lt x z = false) :
    Srt lt (M1 ++ x :: M2) ∧ Stb lt (P ++ [x]) (M1 ++ x :: M2) := by
  constructor
  · refine Srt.app hs.left (List.pairwise_cons.2 ⟨fun z hz => o.asy _ _ (c z hz), hs.right⟩) fun u hu v hv => ?_
    rcases List.mem_cons.1 hv with rfl | hv
    · exact e u hu
    · exact hs.mid u hu v hv
  · have h1 := hk.append (Stb.refl (lt := lt) [x])
    refine h1.trans ?_
    have h2 : Stb lt (M2 ++ [x]) ([x] ++ M2) := Stb.cross o M2 [x] fun u hu v hv => by
      obtain rfl : v = x := by simpa using hv
      exact c u hu
    have h3 := (Stb.refl (lt := lt) M1).append h2
    simpa using h3
theorem last_le (o : SWO lt) {M1 : List α} {x y : α} (hs : Srt lt (M1 ++ [y])) (h : lt x y = false) : ∀ z ∈ M1 ++ [y], lt x z = false := by
  intro z hz
  rcases List.mem_append.1 hz with hz | hz
  · exact o.neg x y z h (hs.mid z hz y (by simp))
  · obtain rfl : z = y := by simpa using hz
    exact h
/-! The merge: what is left is cut at l1, l2, what is right at r1, r2. -/
theorem merge_cut (o : SWO lt) {l1 l2 r1 r2 : List α} (hl : Srt lt (l1 ++ l2)) (hr : Srt lt (r1 ++ r2)) (c1 : ∀ x ∈ l1, ∀ y ∈ r2, lt y x = false) (c2 : ∀ x ∈ l2, ∀ y ∈ r1, lt y x = true)
    {m1 m2 : List α} (h1 : Srt lt m1) (h2 : Srt lt m2) (k1 : Stb lt (l1 ++ r1) m1) (k2 : Stb lt (l2 ++ r2) m2) : Srt lt (m1 ++ m2) ∧ Stb lt (l1 ++ l2 ++ (r1 ++ r2)) (m1 ++ m2) := by
  constructor
  · refine Srt.app h1 h2 fun x hx y hy => ?_
    have hx' := (k1.mem o x).2 hx
    have hy' := (k2.mem o y).2 hy
    rcases List.mem_append.1 hx' with hx' | hx' <;> rcases List.mem_append.1 hy' with hy' | hy'
    · exact hl.mid x hx' y hy'
    · exact c1 x hx' y hy'
    · exact o.asy _ _ (c2 y hy' x hx')
    · exact hr.mid x hx' y hy'
  · refine Stb.trans ?_ (k1.append k2)
    have h3 := ((Stb.refl (lt := lt) l1).append (Stb.cross o l2 r1 c2)).append (Stb.refl (lt := lt) r2)
    simpa [List.append_assoc] using h3
end Go.Proofs.Ytddbnncimggogaa.SP
end
section
/- slices.SortStableFunc at livery/api.Seg: its functions, walked. -/
namespace Go.Proofs.Ytddbnncimggogaa.StSeg
open Go.RowKit Go.Proofs.YtddbnncimggogaaW.PrintWords Go.Proofs.YtddbnncimggogaaW.PrintLast Go.Proofs.YtddbnncimggogaaW.PrintMore Go.Proofs.Ytddbnncimggogaa.Pb Go.Proofs.Ytddbnncimggogaa.Lv Go.Proofs.Ytddbnncimggogaa.SP
def rdE (xs : List Seg) (i : Int) : Seg := xs.getD i.toNat z30
def eV (x : Seg) : Value := .agg #[.int .i64 (x.f0), .int .i64 (x.f1.f0), .int .i64 (x.f1.f1)]
def Holds (cs : Array Value) (xs : List Seg) : Prop := ∀ i : Nat, i < xs.length → cs[i * 3]? = some (.int .i64 ((xs.getD i z30).f0)) ∧ cs[i * 3 + 1]? = some (.int .i64 ((xs.getD i z30).f1.f0)) ∧ cs[i * 3 + 2]? = some (.int .i64 ((xs.getD i z30).f1.f1))
def Row (g N : Nat) (xs : List Seg) (W : World) : Prop := ∃ cs, W.heap[g]? = some (.cells cs 30 (0, 0)) ∧ cs.size = N ∧ xs.length * 3 ≤ N ∧ Holds cs xs
/-- What a caller holds beside the row, through each step of the sort. -/
structure Side (P : Program) (g : Nat) (gc : Nat) (fst cb : Array Value) (cf : Seg → Seg → Int) (I : World → Prop) : Prop where
  cmp : ∀ x y W, I W → Calls P gc (fst ++ (#[eV x, eV y] ++ cb)) W fun e W' => e = .returned (.int .i64 (cf x y)) ∧ I W' ∧ ∀ ob, W.heap[g]? = some ob → W'.heap[g]? = some ob
  set : ∀ W j v, I W → I (W.setCell ⟨g, j, none⟩ v)
  drew : ∀ W, I W → I W.drew
def swp (xs : List Seg) (i j : Nat) : List Seg := (xs.set i (xs.getD j z30)).set j (xs.getD i z30)
theorem len_swp (xs : List Seg) (i j : Nat) : (swp xs i j).length = xs.length := by simp [swp]
theorem swp_app (A B C : List Seg) (x y : Seg) : swp (A ++ x :: (B ++ y :: C)) A.length (A.length + 1 + B.length) = A ++ y :: (B ++ x :: C) := by
  unfold swp
  have e1 : (A ++ x :: (B ++ y :: C)).getD (A.length + 1 + B.length) z30 = y := by
    rw [List.getD_eq_getElem?_getD, List.getElem?_append_right (by omega), show A.length + 1 + B.length - A.length = B.length + 1 by omega, List.getElem?_cons_succ, List.getElem?_append_right (Nat.le_refl _), Nat.sub_self]
    rfl
  have e2 : (A ++ x :: (B ++ y :: C)).getD A.length z30 = x := by simp [List.getD_eq_getElem?_getD]
  rw [e1, e2]
  rw [List.set_append_right _ _ (Nat.le_refl _), Nat.sub_self, List.set_cons_zero]
  rw [List.set_append_right _ _ (by omega), show A.length + 1 + B.length - A.length = B.length + 1 by omega, List.set_cons_succ]
  rw [List.set_append_right _ _ (Nat.le_refl _), Nat.sub_self, List.set_cons_zero]
theorem holds_get {cs : Array Value} {xs : List Seg} (h : Holds cs xs) (i : Nat) (hi : i < xs.length) : cs[i * 3]? = some (.int .i64 ((rdE xs (i : Int)).f0)) ∧ cs[i * 3 + 1]? = some (.int .i64 ((rdE xs (i : Int)).f1.f0)) ∧ cs[i * 3 + 2]? = some (.int .i64 ((rdE xs (i : Int)).f1.f1)) := by
  have e : rdE xs (i : Int) = xs.getD i z30 := by simp [rdE]
  rw [e]
  exact h i hi

theorem holds_swp {cs : Array Value} {xs : List Seg} (h : Holds cs xs) (hs : xs.length * 3 ≤ cs.size) (i j : Nat) (hi : i < xs.length) (hj : j < xs.length) (hne : i ≠ j) :
    Holds ((((((cs.setIfInBounds (i * 3) (.int .i64 ((xs.getD j z30).f0))).setIfInBounds (i * 3 + 1) (.int .i64 ((xs.getD j z30).f1.f0))).setIfInBounds (i * 3 + 2) (.int .i64 ((xs.getD j z30).f1.f1))).setIfInBounds (j * 3) (.int .i64 ((xs.getD i z30).f0))).setIfInBounds (j * 3 + 1) (.int .i64 ((xs.getD i z30).f1.f0))).setIfInBounds (j * 3 + 2) (.int .i64 ((xs.getD i z30).f1.f1))) (swp xs i j) := by
  intro q hq
  rw [len_swp] at hq
  have hq0 := h q hq
  have ev : (swp xs i j).getD q z30 = if q = j then xs.getD i z30 else if q = i then xs.getD j z30 else xs.getD q z30 := by
    unfold swp
    simp only [List.getD_eq_getElem?_getD, List.getElem?_set, List.length_set]
    by_cases h1 : j = q
    · subst h1; simp [hj]
    · by_cases h2 : i = q
      · subst h2; simp [h1, hi, Ne.symm h1]
      · simp [h1, h2, Ne.symm h1, Ne.symm h2, fun hh : q = j => h1 hh.symm, fun hh : q = i => h2 hh.symm]
  rw [ev]
  by_cases h1 : q = j
  · subst h1
    rw [if_pos rfl]
    simp only [Array.getElem?_setIfInBounds, Array.size_setIfInBounds]
    refine ⟨?_, ?_, ?_⟩
    · repeat (first | rw [if_pos trivial] | rw [if_pos (by omega)] | rw [if_neg (by omega)])
    · repeat (first | rw [if_pos trivial] | rw [if_pos (by omega)] | rw [if_neg (by omega)])
    · repeat (first | rw [if_pos trivial] | rw [if_pos (by omega)] | rw [if_neg (by omega)])
  · rw [if_neg h1]
    by_cases h2 : q = i
    · subst h2
      rw [if_pos rfl]
      simp only [Array.getElem?_setIfInBounds, Array.size_setIfInBounds]
      refine ⟨?_, ?_, ?_⟩
      · repeat (first | rw [if_pos trivial] | rw [if_pos (by omega)] | rw [if_neg (by omega)])
      · repeat (first | rw [if_pos trivial] | rw [if_pos (by omega)] | rw [if_neg (by omega)])
      · repeat (first | rw [if_pos trivial] | rw [if_pos (by omega)] | rw [if_neg (by omega)])
    · rw [if_neg h2]
      simp only [Array.getElem?_setIfInBounds, Array.size_setIfInBounds]
      refine ⟨?_, ?_, ?_⟩
      · repeat rw [if_neg (by omega)]
        exact hq0.1
      · repeat rw [if_neg (by omega)]
        exact hq0.2.1
      · repeat rw [if_neg (by omega)]
        exact hq0.2.2

theorem holds_int {cs : Array Value} {xs : List Seg} (h : Holds cs xs) (i : Int) (h0 : 0 ≤ i) (hi : i < xs.length) : cs[i.toNat * 3]? = some (.int .i64 ((rdE xs i).f0)) ∧ cs[i.toNat * 3 + 1]? = some (.int .i64 ((rdE xs i).f1.f0)) ∧ cs[i.toNat * 3 + 2]? = some (.int .i64 ((rdE xs i).f1.f1)) := by
  have := holds_get h i.toNat (by omega)
  rwa [show ((i.toNat : Nat) : Int) = i by omega] at this
theorem row_drew {g N : Nat} {xs : List Seg} {W : World} (h : Row g N xs W) : Row g N xs W.drew := by
  obtain ⟨cs, hb, r⟩ := h
  exact ⟨cs, blk_drew hb, r⟩
/-- The facts that a swap of two elements needs and what it leaves. -/
theorem row_swp {g N : Nat} {xs : List Seg} {W : World} {cs : Array Value} (hb : W.heap[g]? = some (.cells cs 30 (0, 0))) (hs : cs.size = N) (hl : xs.length * 3 ≤ N) (h : Holds cs xs) (i j : Int) (h0 : 0 ≤ i) (hi : i < xs.length) (k0 : 0 ≤ j) (hj : j < xs.length) (hne : i ≠ j) :
    Row g N (swp xs i.toNat j.toNat) ((((((W.setCell ⟨g, i.toNat * 3, none⟩ (.int .i64 ((rdE xs j).f0))).setCell ⟨g, i.toNat * 3 + 1, none⟩ (.int .i64 ((rdE xs j).f1.f0))).setCell ⟨g, i.toNat * 3 + 2, none⟩ (.int .i64 ((rdE xs j).f1.f1))).setCell ⟨g, j.toNat * 3, none⟩ (.int .i64 ((rdE xs i).f0))).setCell ⟨g, j.toNat * 3 + 1, none⟩ (.int .i64 ((rdE xs i).f1.f0))).setCell ⟨g, j.toNat * 3 + 2, none⟩ (.int .i64 ((rdE xs i).f1.f1))) :=
  ⟨_, blk_set (blk_set (blk_set (blk_set (blk_set (blk_set (hb) _ _) _ _) _ _) _ _) _ _) _ _, by simp [hs], by rw [len_swp]; exact hl, by
    have := holds_swp h (by omega) i.toNat j.toNat (by omega) (by omega) (by omega)
    exact this⟩
set_option maxHeartbeats 1000000 in
set_option maxRecDepth 100000 in
theorem swapRange_calls (g N c L : Nat) (a b n : Int) (fv : Value) (I : World → Prop) (xs : List Seg) (w : World) (hset : ∀ W j v, I W → I (W.setCell ⟨g, j, none⟩ v)) (hdrew : ∀ W, I W → I W.drew)
    (hI : I w) (hR : Row g N xs w) (A U B V C : List Seg) (hxs : xs = A ++ (U ++ (B ++ (V ++ C)))) (ha : a = A.length) (hn1 : n = U.length) (hn2 : V.length = U.length) (hb : b = A.length + U.length + B.length) (hm : xs.length ≤ 1000000000) (hL : L = xs.length) :
    Calls Try.prog 161 #[.slice (some ⟨g, 0, none⟩) L c, .int .i64 a, .int .i64 b, .int .i64 n, fv] w fun e w' => e = .returned (.tuple #[]) ∧ I w' ∧ Row g N (A ++ (V ++ (B ++ (U ++ C)))) w' := by
  subst hL
  have hu30 := Try.underlying30
  have hlen : A.length + (U.length + (B.length + (V.length + C.length))) = xs.length := by rw [hxs]; simp
  have ha0 : 0 ≤ a := by omega
  have hb0 : 0 ≤ b := by omega
  have hab : a + n ≤ b := by omega
  have hbn : b + n ≤ xs.length := by omega
  have hb3 : b ≤ 1000000000 := by omega
  have ha3 : a ≤ 1000000000 := by omega
  have hn3 : n ≤ 1000000000 := by omega
  have HR := Aside0.mk hR
  have HX := Aside0.mk (And.intro hxs (And.intro ha (And.intro hn1 (And.intro hn2 (And.intro hb hlen)))))
  have HS := Aside0.mk (And.intro hset hdrew)
  clear hR hxs ha hn1 hn2 hb hlen hset hdrew
  go_enter Try.func161, Try.ntmps161
  go_wp2
  go_loopw [10] (fun v wr => ∃ i : Int, 0 ≤ i ∧ i ≤ n ∧ v = .int .i64 i ∧ I wr ∧ Row g N (A ++ (V.take i.toNat ++ (U.drop i.toNat ++ (B ++ (U.take i.toNat ++ (V.drop i.toNat ++ C)))))) wr) (fun v _ => (n - intOf v).toNat)
  case atStart => exact ⟨0, by omega, by have := HX.out; omega, rfl, hI, by have := HR.out; rw [HX.out.1] at this; simpa using this⟩
  case round =>
    obtain ⟨i, hi0, hin, rfl, hIw, hRw⟩ := hrel
    have hn2 := HX.out.2.2.2.1
    have hn1 := HX.out.2.2.1
    by_cases hlt : i < n
    · obtain ⟨ys, hys⟩ : ∃ ys, ys = A ++ (V.take i.toNat ++ (U.drop i.toNat ++ (B ++ (U.take i.toNat ++ (V.drop i.toNat ++ C))))) := ⟨_, rfl⟩
      rw [← hys] at hRw
      have hyl : ys.length = xs.length := by rw [hys]; have := HX.out; simp; omega
      obtain ⟨cs, hb, hsz, hlN, hH⟩ := hRw
      obtain ⟨p, hp⟩ : ∃ p, p = a + i := ⟨_, rfl⟩
      obtain ⟨q, hq⟩ : ∃ q, q = b + i := ⟨_, rfl⟩
      have hp0 : 0 ≤ p := by omega
      have hq0 : 0 ≤ q := by omega
      have hp1 : p < xs.length := by omega
      have hq1 : q < xs.length := by omega
      have hpq : p ≠ q := by omega
      obtain ⟨xp0, xp1, xp2⟩ := holds_int hH p hp0 (by omega)
      obtain ⟨xq0, xq1, xq2⟩ := holds_int hH q hq0 (by omega)
      have pc0 := (blk_cell hb (p.toNat * 3)).trans xp0
      have pc1 := (blk_cell hb (p.toNat * 3 + 1)).trans xp1
      have pc2 := (blk_cell hb (p.toNat * 3 + 2)).trans xp2
      have qc0 := (blk_cell hb (q.toNat * 3)).trans xq0
      have qc1 := (blk_cell hb (q.toNat * 3 + 1)).trans xq1
      have qc2 := (blk_cell hb (q.toNat * 3 + 2)).trans xq2
      have pz0 := blk_frozen hb (p.toNat * 3)
      have pz1 := blk_frozen hb (p.toNat * 3 + 1)
      have pz2 := blk_frozen hb (p.toNat * 3 + 2)
      have qz0 := blk_frozen hb (q.toNat * 3)
      have qz1 := blk_frozen hb (q.toNat * 3 + 1)
      have qz2 := blk_frozen hb (q.toNat * 3 + 2)
      have fin := row_swp hb hsz (by rw [hyl] at *; exact hlN) hH p q hp0 (by omega) hq0 (by omega) hpq
      have hsw : swp ys p.toNat q.toNat = A ++ (V.take (i + 1).toNat ++ (U.drop (i + 1).toNat ++ (B ++ (U.take (i + 1).toNat ++ (V.drop (i + 1).toNat ++ C))))) := by
        have hiU : i.toNat < U.length := by omega
        have hiV : i.toNat < V.length := by omega
        have e1 : (i + 1).toNat = i.toNat + 1 := by omega
        rw [hys, e1, List.drop_eq_getElem_cons hiU, List.drop_eq_getElem_cons hiV, List.take_succ_eq_append_getElem hiV, List.take_succ_eq_append_getElem hiU]
        have h1 := swp_app (A ++ V.take i.toNat) (U.drop (i.toNat + 1) ++ (B ++ U.take i.toNat)) (V.drop (i.toNat + 1) ++ C) U[i.toNat] V[i.toNat]
        have ea : (A ++ V.take i.toNat).length = p.toNat := by have := HX.out; simp; omega
        have eb : (A ++ V.take i.toNat).length + 1 + (U.drop (i.toNat + 1) ++ (B ++ U.take i.toNat)).length = q.toNat := by have := HX.out; simp; omega
        rw [ea] at h1
        rw [ea] at eb
        rw [eb] at h1
        simp only [List.append_assoc, List.cons_append, List.nil_append] at h1 ⊢
        exact h1
      rw [hsw] at fin
      have HP := Aside0.mk hp
      have HQ := Aside0.mk hq
      have hp' : a + i = p := hp.symm
      have hq' : b + i = q := hq.symm
      have FIN := Aside0.mk fin
      have HIW := Aside0.mk hIw
      clear hp hq fin hIw hsw hH hb hsz hlN hys hyl hn1 hn2
      go_wp2_with fail
      go_region
      all_goals go_wp2
      refine ⟨⟨i + 1, by omega, by omega, rfl, HS.out.2 _ (HS.out.1 _ _ _ (HS.out.1 _ _ _ (HS.out.1 _ _ _ (HS.out.1 _ _ _ (HS.out.1 _ _ _ (HS.out.1 _ _ _ (HIW.out))))))), row_drew FIN.out⟩, by simp [intOf]; omega⟩
    · have hie : i.toNat = U.length := by omega
      have hve : i.toNat = V.length := by omega
      rw [hie] at hRw
      have hfin : Row g N (A ++ (V ++ (B ++ (U ++ C)))) wr := by
        have e2 : List.take U.length V = V := List.take_of_length_le (by omega)
        have e3 : List.drop U.length V = [] := List.drop_of_length_le (by omega)
        rw [e2, e3] at hRw
        simpa using hRw
      clear hie hve hRw hn1 hn2
      go_wp2
      go_end0
      exact ⟨rfl, hIw, hfin⟩

set_option maxHeartbeats 1000000 in
set_option maxRecDepth 100000 in
theorem rotate_calls (g N c L : Nat) (a m b : Int) (fv : Value) (I : World → Prop) (xs : List Seg) (w : World) (hset : ∀ W j v, I W → I (W.setCell ⟨g, j, none⟩ v)) (hdrew : ∀ W, I W → I W.drew)
    (hI : I w) (hR : Row g N xs w) (A U V C : List Seg) (hxs : xs = A ++ (U ++ (V ++ C))) (ha : a = A.length) (hm0 : m = A.length + U.length) (hb : b = A.length + U.length + V.length) (hU : 0 < U.length) (hV : 0 < V.length) (hm : xs.length ≤ 1000000000) (hL : L = xs.length) :
    Calls Try.prog 156 #[.slice (some ⟨g, 0, none⟩) L c, .int .i64 a, .int .i64 m, .int .i64 b, fv] w fun e w' => e = .returned (.tuple #[]) ∧ I w' ∧ Row g N (A ++ (V ++ (U ++ C))) w' := by
  have hlen : A.length + (U.length + (V.length + C.length)) = xs.length := by rw [hxs]; simp
  have ha0 : 0 ≤ a := by omega
  have ham : a < m := by omega
  have hmb : m < b := by omega
  have hbn : b ≤ 1000000000 := by omega
  have hm3 : m ≤ 1000000000 := by omega
  have ha3 : a ≤ 1000000000 := by omega
  have hm1 : 0 ≤ m := by omega
  have hb1 : 0 ≤ b := by omega
  have hat : Row g N (A ++ (U ++ (V ++ C))) w := by rw [← hxs]; exact hR
  have HAT := Aside0.mk hat
  have HX := Aside0.mk (And.intro hxs (And.intro ha (And.intro hm0 (And.intro hb (And.intro hlen (And.intro hU (And.intro hV (And.intro hm hL))))))))
  have HS := Aside0.mk (And.intro hset hdrew)
  obtain ⟨T, hT⟩ : ∃ T, T = A ++ (V ++ (U ++ C)) := ⟨_, rfl⟩
  rw [← hT]
  have HT := Aside0.mk hT
  clear hR hxs ha hm0 hb hlen hU hV hset hdrew hat hT hm hL
  go_enter Try.func156, Try.ntmps156
  go_wp2
  go_loopw [10, 11] (fun v1 v2 wr => ∃ (i j : Int) (A1 U1 V1 C1 : List Seg), v1 = .int .i64 i ∧ v2 = .int .i64 j ∧ 0 < i ∧ 0 < j ∧ i + j ≤ 2000000000 ∧ i ≤ m ∧ I wr ∧ Row g N (A1 ++ (U1 ++ (V1 ++ C1))) wr ∧
      Aside0 (i = U1.length ∧ j = V1.length ∧ m = A1.length + U1.length ∧ A1.length + (U1.length + (V1.length + C1.length)) = L ∧ A1 ++ (V1 ++ (U1 ++ C1)) = T)) (fun v1 v2 _ => (intOf v1 + intOf v2).toNat)
  case atStart => exact ⟨m - a, b - m, A, U, V, C, rfl, rfl, by omega, by omega, by omega, by omega, hI, HAT.out, ⟨by have := HX.out; omega, by have := HX.out; omega, by have := HX.out; omega, by have := HX.out; omega, HT.out.symm⟩⟩
  case round =>
    obtain ⟨i, j, A1, U1, V1, C1, rfl, rfl, hi0, hj0, hij, him, hIw, hRw, HC⟩ := hrel
    have hi9 : i ≤ 1000000000 := by omega
    have hj9 : j ≤ 1000000000 := by have := HC.out; have := HX.out; omega
    have hmj : m + j ≤ 1000000000 := by have := HC.out; have := HX.out; omega
    by_cases heq : i = j
    · have hd : (i != j) = false := by simp [heq]
      have hd2 : (i == j) = true := by simp [heq]
      have HEQ := Aside0.mk heq
      clear heq
      go_wp2_with fail
      refine (swapRange_calls g N c L (m - i) m i fv I _ wr HS.out.1 HS.out.2 hIw hRw A1 U1 [] V1 C1 (by simp) (by have := HC.out; omega) (by have := HC.out; omega) (by have := HC.out; have := HEQ.out; omega) (by have := HC.out; simp; omega) (by have := HC.out; have := HX.out; simp; omega) (by have := HC.out; simp; omega)).mono ?_
      rintro e w1 ⟨rfl, hI1, hR1⟩
      clear hIw hRw
      have hf : Row g N T w1 := by have := HC.out.2.2.2.2; rw [← this]; simpa using hR1
      clear hR1
      go_wp2
      go_end0
      exact ⟨rfl, hI1, hf⟩
    · have hd : (i != j) = true := by simp [heq]
      have hd2 : (i == j) = false := by simp [heq]
      by_cases hgt : j < i
      · have hd3 : decide (j < i) = true := decide_eq_true hgt
        clear heq
        have hsp : U1 = U1.take j.toNat ++ U1.drop j.toNat := (List.take_append_drop _ _).symm
        have hdec : A1 ++ (U1 ++ (V1 ++ C1)) = A1 ++ (U1.take j.toNat ++ (U1.drop j.toNat ++ (V1 ++ C1))) := by rw [← List.append_assoc (U1.take _), List.take_append_drop]
        have hl1 : (U1.take j.toNat).length = V1.length := by have := HC.out; simp; omega
        have hl2 : (U1.drop j.toNat).length = (i - j).toNat := by have := HC.out; simp; omega
        go_wp2_with fail
        refine (swapRange_calls g N c L (m - i) m j fv I _ wr HS.out.1 HS.out.2 hIw hRw A1 (U1.take j.toNat) (U1.drop j.toNat) V1 C1 hdec (by have := HC.out; omega) (by have := HC.out; omega) (by omega) (by have := HC.out; omega) (by have := HC.out; have := HX.out; simp; omega) (by have := HC.out; simp; omega)).mono ?_
        rintro e w1 ⟨rfl, hI1, hR1⟩
        clear hIw hRw
        have hnew : Aside0 (i - j = (U1.drop j.toNat).length ∧ j = (U1.take j.toNat).length ∧ m = (A1 ++ V1).length + (U1.drop j.toNat).length ∧ (A1 ++ V1).length + ((U1.drop j.toNat).length + ((U1.take j.toNat).length + C1.length)) = L ∧ (A1 ++ V1) ++ (U1.take j.toNat ++ (U1.drop j.toNat ++ C1)) = T) := by
          have h := HC.out
          refine ⟨by omega, by omega, by rw [List.length_append]; omega, by rw [List.length_append]; omega, ?_⟩
          rw [← h.2.2.2.2]
          rw [← List.append_assoc (U1.take _), List.take_append_drop, List.append_assoc]
        have hR2 : Row g N ((A1 ++ V1) ++ (U1.drop j.toNat ++ (U1.take j.toNat ++ C1))) w1 := by simpa using hR1
        clear hR1 hsp hl1 hl2
        go_wp2
        go_roundw
        case rel => exact ⟨i - j, j, A1 ++ V1, U1.drop j.toNat, U1.take j.toNat, C1, rfl, rfl, by omega, by omega, by omega, by omega, hI1, hR2, hnew⟩
        case measure => simp [intOf]; omega
      · have hd3 : decide (j < i) = false := decide_eq_false hgt
        have hlt : i < j := by omega
        clear heq
        have hsp : V1 = V1.take (j - i).toNat ++ V1.drop (j - i).toNat := (List.take_append_drop _ _).symm
        have hdec : A1 ++ (U1 ++ (V1 ++ C1)) = A1 ++ (U1 ++ (V1.take (j - i).toNat ++ (V1.drop (j - i).toNat ++ C1))) := by rw [← List.append_assoc (V1.take _), List.take_append_drop]
        have hl1 : (V1.drop (j - i).toNat).length = U1.length := by have := HC.out; simp; omega
        have hl2 : (V1.take (j - i).toNat).length = (j - i).toNat := by have := HC.out; simp; omega
        go_wp2_with fail
        refine (swapRange_calls g N c L (m - i) (m + j - i) i fv I _ wr HS.out.1 HS.out.2 hIw hRw A1 U1 (V1.take (j - i).toNat) (V1.drop (j - i).toNat) C1 hdec (by have := HC.out; omega) (by have := HC.out; omega) (by omega) (by have := HC.out; omega) (by have := HC.out; have := HX.out; simp; omega) (by have := HC.out; simp; omega)).mono ?_
        rintro e w1 ⟨rfl, hI1, hR1⟩
        clear hIw hRw
        have hnew : Aside0 (i = (V1.drop (j - i).toNat).length ∧ j - i = (V1.take (j - i).toNat).length ∧ m = A1.length + (V1.drop (j - i).toNat).length ∧ A1.length + ((V1.drop (j - i).toNat).length + ((V1.take (j - i).toNat).length + (U1 ++ C1).length)) = L ∧ A1 ++ (V1.take (j - i).toNat ++ (V1.drop (j - i).toNat ++ (U1 ++ C1))) = T) := by
          have h := HC.out
          refine ⟨by omega, by omega, by omega, by rw [List.length_append]; omega, ?_⟩
          rw [← h.2.2.2.2]
          rw [← List.append_assoc (V1.take _), List.take_append_drop]
        clear hsp hl1 hl2 hdec
        go_wp2
        go_roundw
        case rel => exact ⟨i, j - i, A1, V1.drop (j - i).toNat, V1.take (j - i).toNat, U1 ++ C1, rfl, rfl, by omega, by omega, by omega, by omega, hI1, hR1, hnew⟩
        case measure => simp [intOf]; omega

/-! A region that draws its order and asks the comparison. -/
structure InR (g : Nat) (I : World → Prop) (w : World) where
  W : World
  side : I W
  row : ∀ ob, w.heap[g]? = some ob → W.heap[g]? = some ob
theorem wp_region_inR {P : Program} {id : Nat} {Q : Exit → Act → World → Prop} {a : Act} {w : World} {l : List Oper} (g : Nat) (I : World → Prop) (hI : I w) (hd : ∀ W, I W → I W.drew) (hm : P.follows .mixedOrders = true) (hB : Region.lexB .any l.toArray = true)
    (h : wpQuiet P l.toArray (fun w' => ∃ p : InR g I w, w' = p.W) (fun a' => ∀ w', (∃ p : InR g I w, w' = p.W) → Q .normal a' w') l a) : (Code.region id l.toArray true).wp P Q a w :=
  wp_region_quiet (C := fun w' => ∃ p : InR g I w, w' = p.W) hm hB ⟨⟨w.drew, hd w hI, fun ob h => blk_drew h⟩, rfl⟩ (by simpa using h)
theorem Calls.inR {P : Program} {f : FuncId} {args : Array Value} {g : Nat} {I : World → Prop} {w : World} {p : InR g I w} {v : Value}
    (h : Calls P f args p.W fun e w' => e = .returned v ∧ I w' ∧ ∀ ob, p.W.heap[g]? = some ob → w'.heap[g]? = some ob) : Calls P f args p.W fun e w'' => e = .returned v ∧ ∃ q : InR g I w, w'' = q.W :=
  h.mono fun _ w' ⟨he, hi, hb⟩ => ⟨he, ⟨w', hi, fun ob hob => hb ob (p.row ob hob)⟩, rfl⟩
theorem InR.cell {g : Nat} {I : World → Prop} {w : World} {cs : Array Value} {t : TypeId} (hb : w.heap[g]? = some (.cells cs t (0, 0))) {j : Nat} {v : Value} (h : cs[j]? = some v) (p : InR g I w) : p.W.cell? ⟨g, j, none⟩ = some v := (blk_cell (p.row _ hb) j).trans h
theorem row_of {g N : Nat} {I : World → Prop} {w : World} {xs : List Seg} (h : Row g N xs w) (p : InR g I w) : Row g N xs p.W := by
  obtain ⟨cs, hb, r⟩ := h
  exact ⟨cs, p.row _ hb, r⟩
theorem swp_comm (xs : List Seg) (i j : Nat) (h : i ≠ j) : swp xs i j = swp xs j i := by
  unfold swp
  rw [List.set_comm _ _ h]
theorem rd_at (A B : List Seg) (x : Seg) (i : Int) (h : i = A.length) : rdE (A ++ x :: B) i = x := by
  unfold rdE
  rw [h]
  simp [List.getD_eq_getElem?_getD]
def ltB (cf : Seg → Seg → Int) (x y : Seg) : Bool := decide (cf x y < 0)
set_option maxHeartbeats 2000000 in
set_option maxRecDepth 100000 in
theorem insertion_calls (gc : Nat) (fst cb : Array Value) (cf : Seg → Seg → Int) (o : SWO (ltB cf)) (g N c L : Nat) (a b : Int) (I : World → Prop) (xs : List Seg) (w : World) (hS : Side Try.prog g gc fst cb cf I)
    (eg : ∀ args w, (callFunc gc args).run Try.prog w = .ok (.enter gc args) w)
    (hI : I w) (hR : Row g N xs w) (A M C : List Seg) (hxs : xs = A ++ (M ++ C)) (ha : a = A.length) (hb : b = A.length + M.length) (hm : xs.length ≤ 1000000000) (hL : L = xs.length) :
    Calls Try.prog 151 #[.slice (some ⟨g, 0, none⟩) L c, .int .i64 a, .int .i64 b, .func (.func gc) fst cb] w fun e w' => e = .returned (.tuple #[]) ∧ I w' ∧ ∃ M', Row g N (A ++ (M' ++ C)) w' ∧ Srt (ltB cf) M' ∧ Stb (ltB cf) M M' := by
  have hu30 := Try.underlying30
  have hlen : A.length + (M.length + C.length) = xs.length := by rw [hxs]; simp
  have hat : Row g N (A ++ (M ++ C)) w := by rw [← hxs]; exact hR
  have ha0 : 0 ≤ a := by omega
  have hab : a ≤ b := by omega
  have hbn : b ≤ 1000000000 := by omega
  have hb0 : 0 ≤ b := by omega
  have hbL : b ≤ L := by omega
  have HAT := Aside0.mk hat
  have HX := Aside0.mk (And.intro ha (And.intro hb (And.intro hlen (And.intro hm hL))))
  have HS := Aside0.mk hS
  clear hR hxs ha hb hlen hat hm hL hS
  go_enter Try.func151, Try.ntmps151
  go_wp2
  have HEG := Aside0.mk eg
  go_loopw [8] (fun v8 wr => ∃ (i : Int) (M1 : List Seg), v8 = .int .i64 i ∧ a < i ∧ i ≤ b + 1 ∧ I wr ∧ Row g N (A ++ (M1 ++ (M.drop (i - a).toNat ++ C))) wr ∧ Aside0 ((M1.length = (i - a).toNat ∨ M.length = 0 ∧ M1 = []) ∧ Srt (ltB cf) M1 ∧ Stb (ltB cf) (M.take (i - a).toNat) M1)) (fun v8 _ => (b + 1 - intOf v8).toNat)
  case atStart =>
    refine ⟨a + 1, M.take 1, rfl, by omega, by omega, hI, ?_, ⟨?_, ?_, ?_⟩⟩
    · have e1 : (a + 1 - a).toNat = 1 := by omega
      rw [e1, ← List.append_assoc (M.take 1), List.take_append_drop]
      exact HAT.out
    · have e1 : (a + 1 - a).toNat = 1 := by omega
      rw [e1]
      cases M with
      | nil => right; simp
      | cons x M => left; simp
    · cases M with
      | nil => exact Srt.nil
      | cons x M => exact Srt.one x
    · have e1 : (a + 1 - a).toNat = 1 := by omega
      rw [e1]
      exact Stb.refl _
  case round =>
    obtain ⟨i, M1, rfl, hai, hib, hIw, hRw, HC⟩ := hrel
    by_cases hlt : i < b
    · obtain ⟨x, hx⟩ : ∃ x, M.drop (i - a).toNat = x :: M.drop (i + 1 - a).toNat := by
        have hl : (i - a).toNat < M.length := by have := HX.out; omega
        have e1 : (i + 1 - a).toNat = (i - a).toNat + 1 := by omega
        exact ⟨M[(i - a).toNat], by rw [e1, ← List.drop_eq_getElem_cons hl]⟩
      have hml : M1.length = (i - a).toNat := by have := HX.out; have := HC.out.1; omega
      have htk : M.take (i + 1 - a).toNat = M.take (i - a).toNat ++ [x] := by
        have hl : (i - a).toNat < M.length := by have := HX.out; omega
        have e1 : (i + 1 - a).toNat = (i - a).toNat + 1 := by omega
        rw [e1, List.take_succ_eq_append_getElem hl]
        rw [List.drop_eq_getElem_cons hl] at hx
        injection hx with hx _
        rw [hx]
      rw [hx] at hRw
      obtain ⟨R, hRR⟩ : ∃ R, R = M.drop (i + 1 - a).toNat ++ C := ⟨_, rfl⟩
      have hRw2 : Row g N (A ++ (M1 ++ (x :: ([] ++ R)))) wr := by rw [hRR]; simpa using hRw
      have HQ := Aside0.mk (And.intro hml (And.intro htk hRR))
      clear hx hml htk hRR hRw
      go_wp2
      go_loopw [9] (fun v9 wr2 => ∃ (j : Int) (P1 P2 : List Seg), v9 = .int .i64 j ∧ a ≤ j ∧ j ≤ i ∧ I wr2 ∧ Row g N (A ++ (P1 ++ (x :: (P2 ++ R)))) wr2 ∧ Aside0 (j = a + P1.length ∧ P1.length + P2.length = M1.length ∧ Srt (ltB cf) (P1 ++ P2) ∧ Stb (ltB cf) (M.take (i - a).toNat) (P1 ++ P2) ∧ ∀ z ∈ P2, ltB cf x z = true)) (fun v9 _ => (intOf v9).toNat)
      case atStart => exact ⟨i, M1, [], rfl, by omega, by omega, hIw, hRw2, ⟨by have := HQ.out; omega, by simp, by simpa using HC.out.2.1, by simpa using HC.out.2.2, by simp⟩⟩
      case round =>
        obtain ⟨j, P1, P2, rfl, haj, hji, hI2, hR2, HD⟩ := hrel
        have hiN : i ≤ 1000000000 := by omega
        have hdr := HS.out.drew
        have HDR := Aside0.mk hdr
        clear hdr
        have inst : Inhabited (InR g I wr) := ⟨⟨wr, hI2, fun _ h => h⟩⟩
        by_cases hja : a < j
        · obtain ⟨P1', y, rfl⟩ : ∃ P y, P1 = P ++ [y] := by
            rcases List.eq_nil_or_concat P1 with h | ⟨P, y, h⟩
            · have := HD.out.1; rw [h] at this; simp at this; omega
            · exact ⟨P, y, by simpa using h⟩
          obtain ⟨m, hm⟩ : ∃ m, m = j - 1 := ⟨_, rfl⟩
          have hw : IntKind.i64.wrap m = m := by rw [IntKind.wrap_i64]; omega
          have hw2 : j - 1 = m := hm.symm
          have hl := HD.out
          have hlen2 : (A ++ ((P1' ++ [y]) ++ (x :: (P2 ++ R)))).length = L := by
            have h1 := HX.out; have h2 := HQ.out
            rw [h2.2.2]
            simp only [List.length_append, List.length_cons, List.length_nil, List.length_drop] at *
            omega
          obtain ⟨ys, hys⟩ : ∃ ys, ys = A ++ ((P1' ++ [y]) ++ (x :: (P2 ++ R))) := ⟨_, rfl⟩
          have ej : rdE ys j = x := by
            rw [hys, ← List.append_assoc]
            exact rd_at _ _ _ _ (by have := HX.out; simp only [List.length_append] at *; omega)
          have em : rdE ys m = y := by
            rw [hys, show A ++ ((P1' ++ [y]) ++ (x :: (P2 ++ R))) = (A ++ P1') ++ y :: (x :: (P2 ++ R)) by simp]
            exact rd_at _ _ _ _ (by have := HX.out; simp only [List.length_append, List.length_cons, List.length_nil] at *; omega)
          have esw : swp ys j.toNat m.toNat = A ++ (P1' ++ (x :: (([y] ++ P2) ++ R))) := by
            have h1 := HX.out
            have h3 := swp_app (A ++ P1') [] (P2 ++ R) y x
            rw [swp_comm _ _ _ (by omega), hys]
            have e3 : (A ++ P1').length = m.toNat := by simp only [List.length_append, List.length_cons, List.length_nil] at *; omega
            have e4 : (A ++ P1').length + 1 + ([] : List Seg).length = j.toNat := by simp only [List.length_append, List.length_cons, List.length_nil] at *; omega
            rw [e4, e3] at h3
            simpa using h3
          rw [← hys] at hR2 hlen2
          obtain ⟨cs, hb, hsz, hlN, hH⟩ := hR2
          have hj1 : j < L := by omega
          have hj0 : 0 ≤ j := by omega
          have hm0 : 0 ≤ m := by omega
          have hm1 : m < L := by omega
          have hjm : j ≠ m := by omega
          have hx0 := holds_int hH j hj0 (by omega)
          have hy0 := holds_int hH m hm0 (by omega)
          rw [ej] at hx0
          rw [em] at hy0
          obtain ⟨xp0, xp1, xp2⟩ := hx0
          obtain ⟨xq0, xq1, xq2⟩ := hy0
          have pc0 := fun p : InR g I wr => InR.cell hb xp0 p
          have pc1 := fun p : InR g I wr => InR.cell hb xp1 p
          have pc2 := fun p : InR g I wr => InR.cell hb xp2 p
          have qc0 := fun p : InR g I wr => InR.cell hb xq0 p
          have qc1 := fun p : InR g I wr => InR.cell hb xq1 p
          have qc2 := fun p : InR g I wr => InR.cell hb xq2 p
          have HB := Aside0.mk (And.intro hb (And.intro hsz (And.intro hlN (And.intro hH (And.intro hlen2 (And.intro ej (And.intro em esw)))))))
          have HM := Aside0.mk hm
          have HYS := Aside0.mk hys
          clear hm hb hsz hlN hH hlen2 ej em esw hl hys xp0 xq0 xp1 xq1 xp2 xq2
          have heg := HEG.out
          go_wp2_with fail
          refine wp_region_inR g I hI2 HDR.out (by kernel_rfl) (by kernel_rfl) ?_
          repeat (quiet_step ((exact Calls.inR (HS.out.cmp x y _ (InR.side _)))))
          refine wpQuiet_nil ?_
          rintro w3 ⟨⟨_, hI3, hrow⟩, rfl⟩
          try dsimp only
          have hb3 := hrow _ HB.out.1
          have fin := row_swp hb3 HB.out.2.1 HB.out.2.2.1 HB.out.2.2.2.1 j m hj0 (by rw [HB.out.2.2.2.2.1]; omega) hm0 (by rw [HB.out.2.2.2.2.1]; omega) hjm
          rw [HB.out.2.2.2.2.2.2.2, HB.out.2.2.2.2.2.1, HB.out.2.2.2.2.2.2.1] at fin
          have hx0 := holds_int HB.out.2.2.2.1 j hj0 (by rw [HB.out.2.2.2.2.1]; omega)
          have hy0 := holds_int HB.out.2.2.2.1 m hm0 (by rw [HB.out.2.2.2.2.1]; omega)
          rw [HB.out.2.2.2.2.2.1] at hx0
          rw [HB.out.2.2.2.2.2.2.1] at hy0
          obtain ⟨xp0, xp1, xp2⟩ := hx0
          obtain ⟨xq0, xq1, xq2⟩ := hy0
          have pd0 := (blk_cell hb3 (j.toNat * 3)).trans xp0
          have pd1 := (blk_cell hb3 (j.toNat * 3 + 1)).trans xp1
          have pd2 := (blk_cell hb3 (j.toNat * 3 + 2)).trans xp2
          have qd0 := (blk_cell hb3 (m.toNat * 3)).trans xq0
          have qd1 := (blk_cell hb3 (m.toNat * 3 + 1)).trans xq1
          have qd2 := (blk_cell hb3 (m.toNat * 3 + 2)).trans xq2
          have pz0 := blk_frozen hb3 (j.toNat * 3)
          have pz1 := blk_frozen hb3 (j.toNat * 3 + 1)
          have pz2 := blk_frozen hb3 (j.toNat * 3 + 2)
          have qz0 := blk_frozen hb3 (m.toNat * 3)
          have qz1 := blk_frozen hb3 (m.toNat * 3 + 1)
          have qz2 := blk_frozen hb3 (m.toNat * 3 + 2)
          have hrw3 : Row g N (A ++ ((P1' ++ [y]) ++ (x :: (P2 ++ R)))) w3 := row_of (⟨cs, HB.out.1, HB.out.2.1, HB.out.2.2.1, HB.out.2.2.2.1⟩ : Row g N ys wr) ⟨w3, hI3, hrow⟩ |> fun h => by rw [HYS.out] at h; exact h
          have HRW3 := Aside0.mk hrw3
          have FIN := Aside0.mk fin
          have HIW := Aside0.mk hI3
          clear hb3 fin hrw3 hI3 hrow xp0 xq0 xp1 xq1 xp2 xq2 pc0 qc0 pc1 qc1 pc2 qc2 inst
          by_cases hc : cf x y < 0
          · have hd : decide (cf x y < 0) = true := decide_eq_true hc
            have hnew : Aside0 (m = a + P1'.length ∧ P1'.length + ([y] ++ P2).length = M1.length ∧ Srt (ltB cf) (P1' ++ ([y] ++ P2)) ∧ Stb (ltB cf) (M.take (i - a).toNat) (P1' ++ ([y] ++ P2)) ∧ ∀ z ∈ [y] ++ P2, ltB cf x z = true) := by
              have h := HD.out; have hm := HM.out
              simp only [List.length_append, List.length_cons, List.length_nil] at h
              refine ⟨by omega, by simp only [List.length_append, List.length_cons, List.length_nil]; omega, by simpa using h.2.2.1, by simpa using h.2.2.2.1, ?_⟩
              exact ins_swap (by simpa [ltB] using hc) h.2.2.2.2
            have hma : a ≤ m := by have := HM.out; omega
            have hmi : m ≤ i := by have := HM.out; omega
            have hmj : m < j := by have := HM.out; omega
            go_wp2_with fail
            go_region
            all_goals go_wp2
            go_roundw
            case rel => exact ⟨m, P1', [y] ++ P2, rfl, hma, hmi, HS.out.drew _ (HS.out.set _ _ _ (HS.out.set _ _ _ (HS.out.set _ _ _ (HS.out.set _ _ _ (HS.out.set _ _ _ (HS.out.set _ _ _ (HIW.out))))))), row_drew FIN.out, hnew⟩
            case measure => simp [intOf]; omega
          · have hd : decide (cf x y < 0) = false := decide_eq_false hc
            have hnew : Aside0 (((P1' ++ [y]) ++ x :: P2).length = (i + 1 - a).toNat ∧ Srt (ltB cf) ((P1' ++ [y]) ++ x :: P2) ∧ Stb (ltB cf) (M.take (i + 1 - a).toNat) ((P1' ++ [y]) ++ x :: P2)) := by
              have h := HD.out; have h2 := HQ.out
              have hs := ins_done o h.2.2.1 h.2.2.2.1 h.2.2.2.2 (last_le o h.2.2.1.left (by simpa [ltB] using hc))
              rw [h2.2.1]
              refine ⟨?_, hs⟩
              simp only [List.length_append, List.length_cons, List.length_nil] at *
              omega
            have hrow4 : Row g N (A ++ (((P1' ++ [y]) ++ x :: P2) ++ (M.drop (i + 1 - a).toNat ++ C))) w3 := by
              have := HRW3.out; rw [HQ.out.2.2] at this; simpa using this
            have HR4 := Aside0.mk hrow4
            clear hrow4
            go_wp2
            go_roundw
            case rel => exact ⟨i + 1, (P1' ++ [y]) ++ x :: P2, rfl, by omega, by omega, HIW.out, HR4.out, ⟨.inl hnew.out.1, hnew.out.2⟩⟩
            case measure => simp [intOf]; omega
        · have hje : j = a := by omega
          have hP : P1 = [] := by have := HD.out.1; exact List.eq_nil_of_length_eq_zero (by omega)
          subst hP
          have hnew : Aside0 ((x :: P2).length = (i + 1 - a).toNat ∧ Srt (ltB cf) (x :: P2) ∧ Stb (ltB cf) (M.take (i + 1 - a).toNat) (x :: P2)) := by
            have h := HD.out; have h2 := HQ.out
            have hs := ins_done o h.2.2.1 h.2.2.2.1 h.2.2.2.2 (by simp)
            rw [h2.2.1]
            refine ⟨?_, by simpa using hs⟩
            simp only [List.length_append, List.length_cons, List.length_nil] at *
            omega
          have hrow4 : Row g N (A ++ ((x :: P2) ++ (M.drop (i + 1 - a).toNat ++ C))) wr := by
            rw [HQ.out.2.2] at hR2; simpa using hR2
          have HR4 := Aside0.mk hrow4
          have HI2 := Aside0.mk hI2
          clear hrow4 hR2 hja hji haj
          subst hje
          go_wp2_with fail
          refine wp_region_inR g I HI2.out HDR.out (by kernel_rfl) (by kernel_rfl) ?_
          repeat (go_big_quiet_step (fail))
          refine wpQuiet_nil ?_
          rintro w3 ⟨⟨_, HI5, hrow⟩, rfl⟩
          have HR5 : Row g N _ w3 := row_of HR4.out ⟨w3, HI5, hrow⟩
          clear hrow inst
          go_wp2
          go_roundw
          case rel => exact ⟨i + 1, x :: P2, rfl, by omega, by omega, HI5, HR5, ⟨.inl hnew.out.1, hnew.out.2⟩⟩
          case measure => simp [intOf]; omega
    · have hfin : ∃ M', Row g N (A ++ (M' ++ C)) wr ∧ Srt (ltB cf) M' ∧ Stb (ltB cf) M M' := by
        have h := HC.out
        have hd : M.drop (i - a).toNat = [] := List.drop_of_length_le (by have := HX.out; omega)
        have ht : M.take (i - a).toNat = M := List.take_of_length_le (by have := HX.out; omega)
        rw [hd] at hRw
        rw [ht] at h
        exact ⟨M1, by simpa using hRw, h.2.1, h.2.2⟩
      have HF := Aside0.mk hfin
      clear hfin hRw
      go_wp2
      go_end0
      exact ⟨rfl, hIw, HF.out⟩

end Go.Proofs.Ytddbnncimggogaa.StSeg
end
section
/- slices.SortStableFunc at livery/api.Seg: the merge. -/
namespace Go.Proofs.Ytddbnncimggogaa.StSeg
open Go.RowKit Go.Proofs.YtddbnncimggogaaW.PrintWords Go.Proofs.YtddbnncimggogaaW.PrintLast Go.Proofs.YtddbnncimggogaaW.PrintMore Go.Proofs.Ytddbnncimggogaa.Pb Go.Proofs.Ytddbnncimggogaa.Lv Go.Proofs.Ytddbnncimggogaa.SP
/-- A search for the end of what holds. -/
structure BX (pr : Int → Bool) (lo hi i j : Int) : Prop where
  li : lo ≤ i
  ij : i ≤ j
  jh : j ≤ hi
  yes : ∀ t, lo ≤ t → t < i → pr t = true
  no : ∀ t, j ≤ t → t < hi → pr t = false
theorem BX.start (pr : Int → Bool) {lo hi : Int} (h : lo ≤ hi) : BX pr lo hi lo hi := ⟨Int.le_refl _, h, Int.le_refl _, fun t h1 h2 => by omega, fun t h1 h2 => by omega⟩
theorem BX.up {pr : Int → Bool} {lo hi i j : Int} (h : BX pr lo hi i j) (mono : ∀ p q, lo ≤ p → p ≤ q → q < hi → pr q = true → pr p = true) (hlt : i < j) (hp : pr ((i + j) / 2) = true) : BX pr lo hi ((i + j) / 2 + 1) j :=
  ⟨by have := h.li; omega, by omega, h.jh, fun t h1 h2 => mono t _ h1 (by omega) (by have := h.jh; omega) hp, h.no⟩
theorem BX.down {pr : Int → Bool} {lo hi i j : Int} (h : BX pr lo hi i j) (mono : ∀ p q, lo ≤ p → p ≤ q → q < hi → pr q = true → pr p = true) (hlt : i < j) (hp : pr ((i + j) / 2) = false) : BX pr lo hi i ((i + j) / 2) :=
  ⟨h.li, by omega, by have := h.jh; omega, h.yes, fun t h1 h2 => by
    cases e : pr t
    · rfl
    · have := mono ((i + j) / 2) t (by have := h.li; omega) h1 h2 e
      rw [this] at hp; cases hp⟩
theorem rd_app_mid (A V C : List Seg) (t : Int) (h0 : (A.length : Int) ≤ t) (h1 : t < A.length + V.length) : rdE (A ++ (V ++ C)) t = V.getD (t - A.length).toNat z30 := by
  unfold rdE
  rw [List.getD_eq_getElem?_getD, List.getElem?_append_right (by omega), List.getElem?_append_left (by omega), List.getD_eq_getElem?_getD]
  congr 3
  omega
theorem srt_rd {lt : Seg → Seg → Bool} {V : List Seg} (h : Srt lt V) (p q : Nat) (hp : p < q) (hq : q < V.length) : lt (V.getD q z30) (V.getD p z30) = false := by
  rw [List.getD_eq_getElem?_getD, List.getD_eq_getElem?_getD, List.getElem?_eq_getElem hq, List.getElem?_eq_getElem (by omega : p < V.length)]
  exact List.pairwise_iff_getElem.1 h p q (by omega) hq hp
theorem mem_take_rd {V : List Seg} {k : Nat} {z : Seg} (h : z ∈ V.take k) : ∃ p, p < k ∧ p < V.length ∧ z = V.getD p z30 := by
  obtain ⟨p, hp, rfl⟩ := List.getElem_of_mem h
  have h2 : p < V.length := by simp at hp; omega
  exact ⟨p, by simp at hp; omega, h2, by simp [List.getD_eq_getElem?_getD, List.getElem?_eq_getElem h2]⟩
theorem mem_drop_rd {V : List Seg} {k : Nat} {z : Seg} (h : z ∈ V.drop k) : ∃ p, k ≤ p ∧ p < V.length ∧ z = V.getD p z30 := by
  obtain ⟨p, hp, rfl⟩ := List.getElem_of_mem h
  have h2 : k + p < V.length := by simp at hp; omega
  exact ⟨k + p, by omega, h2, by simp [List.getD_eq_getElem?_getD, List.getElem?_eq_getElem h2]⟩
/-- One on the left: behind all that are strictly ahead of it. -/
theorem one_left {lt : Seg → Seg → Bool} (o : SWO lt) {x : Seg} {V : List Seg} (hV : Srt lt V) (k : Nat) (h1 : ∀ z ∈ V.take k, lt z x = true) (h2 : ∀ z ∈ V.drop k, lt z x = false) : Srt lt (V.take k ++ x :: V.drop k) ∧ Stb lt ([x] ++ V) (V.take k ++ x :: V.drop k) := by
  have hs : Srt lt (V.take k ++ V.drop k) := by rw [List.take_append_drop]; exact hV
  refine ⟨Srt.app hs.left (List.pairwise_cons.2 ⟨h2, hs.right⟩) fun u hu v hv => ?_, ?_⟩
  · rcases List.mem_cons.1 hv with rfl | hv
    · exact o.asy _ _ (h1 u hu)
    · exact hs.mid u hu v hv
  · have h3 : Stb lt ([x] ++ V.take k) (V.take k ++ [x]) := Stb.cross o [x] (V.take k) fun u hu v hv => by
      obtain rfl : u = x := by simpa using hu
      exact h1 v hv
    have h4 := h3.append (Stb.refl (lt := lt) (V.drop k))
    rw [List.append_assoc, List.take_append_drop] at h4
    simpa using h4
/-- One on the right: ahead of all that it is strictly ahead of. -/
theorem one_right {lt : Seg → Seg → Bool} (o : SWO lt) {y : Seg} {U : List Seg} (hU : Srt lt U) (k : Nat) (h1 : ∀ z ∈ U.take k, lt y z = false) (h2 : ∀ z ∈ U.drop k, lt y z = true) : Srt lt (U.take k ++ y :: U.drop k) ∧ Stb lt (U ++ [y]) (U.take k ++ y :: U.drop k) := by
  have hs : Srt lt (U.take k ++ U.drop k) := by rw [List.take_append_drop]; exact hU
  refine ⟨Srt.app hs.left (List.pairwise_cons.2 ⟨fun z hz => o.asy _ _ (h2 z hz), hs.right⟩) fun u hu v hv => ?_, ?_⟩
  · rcases List.mem_cons.1 hv with rfl | hv
    · exact h1 u hu
    · exact hs.mid u hu v hv
  · have h3 : Stb lt (U.drop k ++ [y]) ([y] ++ U.drop k) := Stb.cross o (U.drop k) [y] fun u hu v hv => by
      obtain rfl : v = y := by simpa using hv
      exact h2 u hu
    have h4 := (Stb.refl (lt := lt) (U.take k)).append h3
    rw [← List.append_assoc, List.take_append_drop] at h4
    simpa using h4

def SymPost (cf : Seg → Seg → Int) (g N : Nat) (I : World → Prop) (A U V C : List Seg) (e : Ending) (w' : World) : Prop := e = .returned (.tuple #[]) ∧ I w' ∧ ∃ M, Row g N (A ++ (M ++ C)) w' ∧ Srt (ltB cf) M ∧ Stb (ltB cf) (U ++ V) M
set_option maxHeartbeats 4000000 in
set_option maxRecDepth 100000 in
theorem sym_left (gc : Nat) (fst cb : Array Value) (cf : Seg → Seg → Int) (o : SWO (ltB cf)) (g N c L : Nat) (I : World → Prop) (hS : Side Try.prog g gc fst cb cf I)
    (eg : ∀ args w, (callFunc gc args).run Try.prog w = .ok (.enter gc args) w) (a m b : Int) (w : World)
    (hI : I w) (A V C : List Seg) (x : Seg) (hR : Row g N (A ++ ([x] ++ (V ++ C))) w) (ha : a = A.length) (hm0 : m = a + 1) (hb : b = m + V.length) (hV0 : 0 < V.length) (hV : Srt (ltB cf) V) (hm : (A ++ ([x] ++ (V ++ C))).length ≤ 1000000000) (hL : L = (A ++ ([x] ++ (V ++ C))).length) :
    Calls Try.prog 152 #[.slice (some ⟨g, 0, none⟩) L c, .int .i64 a, .int .i64 m, .int .i64 b, .func (.func gc) fst cb] w (SymPost cf g N I A [x] V C) := by
  have hu30 := Try.underlying30
  subst hm0
  have ha0 : 0 ≤ a := by omega
  have hlen : A.length + (1 + (V.length + C.length)) = L := by rw [hL]; simp; omega
  rw [← hL] at hm
  have hbL : b ≤ L := by omega
  have hab : a + 1 < b := by omega
  have hbn : b ≤ 1000000000 := by omega
  have haL : a < L := by omega
  obtain ⟨ys, hys⟩ : ∃ ys, ys = A ++ ([x] ++ (V ++ C)) := ⟨_, rfl⟩
  have hyl : ys.length = L := by rw [hys]; exact hL.symm
  rw [← hys] at hR
  have ex : rdE ys a = x := by rw [hys]; exact rd_at A (V ++ C) x a ha
  have ev : ∀ t, a + 1 ≤ t → t < b → rdE ys t = V.getD (t - (a + 1)).toNat z30 := fun t h1 h2 => by
    rw [hys, ← List.append_assoc A]
    rw [rd_app_mid (A ++ [x]) V C t (by simp; omega) (by simp; omega)]
    congr 1
    simp
    omega
  have mono : ∀ p q, a + 1 ≤ p → p ≤ q → q < b → ltB cf (rdE ys q) x = true → ltB cf (rdE ys p) x = true := fun p q h1 h2 h3 h4 => by
    by_cases hpq : p = q
    · rw [hpq]; exact h4
    · cases e : ltB cf (rdE ys p) x
      · have h5 := srt_rd hV (p - (a + 1)).toNat (q - (a + 1)).toNat (by omega) (by omega)
        rw [← ev p h1 (by omega), ← ev q (by omega) h3] at h5
        have := o.neg _ _ _ h5 e
        rw [this] at h4; cases h4
      · rfl
  have HR := Aside0.mk hR
  have HY := Aside0.mk (And.intro hys (And.intro hyl (And.intro ex (And.intro ev (And.intro mono (And.intro ha (And.intro hb (And.intro hlen hV))))))))
  have HS := Aside0.mk hS
  have HEG := Aside0.mk eg
  have HDR := Aside0.mk hS.drew
  have hd1 : ((a + 1 - a : Int) == 1) = true := by simp; omega
  have he1 : a + 1 - a = 1 := by omega
  clear hR hys hyl ex ev mono ha hb hlen hV hS hL hm hV0
  go_enter Try.func152, Try.ntmps152
  go_wp2
  go_loopw [10, 11] (fun v10 v11 wr => ∃ i j : Int, v10 = .int .i64 i ∧ v11 = .int .i64 j ∧ a + 1 ≤ i ∧ i ≤ j ∧ j ≤ b ∧ I wr ∧ Row g N ys wr ∧ Aside0 (BX (fun t => ltB cf (rdE ys t) x) (a + 1) b i j)) (fun v10 v11 _ => (intOf v11 - intOf v10).toNat)
  case atStart => exact ⟨a + 1, b, rfl, rfl, by omega, by omega, by omega, hI, HR.out, ⟨BX.start _ (by omega)⟩⟩
  case round =>
    obtain ⟨i, j, rfl, rfl, hai, hij, hjb, hIw, hRw, HB⟩ := hrel
    have hin : i ≤ 1000000000 := by omega
    have hjn : j ≤ 1000000000 := by omega
    have hi0 : 0 ≤ i := by omega
    have hj0 : 0 ≤ j := by omega
    by_cases hlt : i < j
    · have inst : Inhabited (InR g I wr) := ⟨⟨wr, hIw, fun _ h => h⟩⟩
      obtain ⟨h, hh⟩ : ∃ h, (i + j) / 2 = h := ⟨_, rfl⟩
      have hh0 : 0 ≤ h := by omega
      have hh1 : h < L := by omega
      have hhi : i ≤ h := by omega
      have hhj : h < j := by omega
      have hhw : IntKind.i64.wrap h = h := by rw [IntKind.wrap_i64]; omega
      obtain ⟨cs, hb, hsz, hlN, hH⟩ := hRw
      obtain ⟨xp0, xp1, xp2⟩ := holds_int hH h hh0 (by rw [HY.out.2.1]; omega)
      have hxa := holds_int hH a ha0 (by rw [HY.out.2.1]; omega)
      rw [HY.out.2.2.1] at hxa
      obtain ⟨xq0, xq1, xq2⟩ := hxa
      have pc0 := fun p : InR g I wr => InR.cell hb xp0 p
      have pc1 := fun p : InR g I wr => InR.cell hb xp1 p
      have pc2 := fun p : InR g I wr => InR.cell hb xp2 p
      have qc0 := fun p : InR g I wr => InR.cell hb xq0 p
      have qc1 := fun p : InR g I wr => InR.cell hb xq1 p
      have qc2 := fun p : InR g I wr => InR.cell hb xq2 p
      have HRW := Aside0.mk (⟨cs, hb, hsz, hlN, hH⟩ : Row g N ys wr)
      obtain ⟨y, hy⟩ : ∃ y, y = rdE ys h := ⟨_, rfl⟩
      rw [← hy] at pc0 pc1 pc2
      have HYY := Aside0.mk hy
      have HH := Aside0.mk hh
      have heg := HEG.out
      clear hb hsz hlN hH xp0 xq0 xp1 xq1 xp2 xq2 hy
      go_wp2_with fail
      refine wp_region_inR g I hIw HDR.out (by kernel_rfl) (by kernel_rfl) ?_
      repeat (quiet_step ((exact Calls.inR (HS.out.cmp y x _ (InR.side _)))))
      refine wpQuiet_nil ?_
      rintro w3 ⟨⟨_, hI3, hrow⟩, rfl⟩
      try dsimp only
      have HR3 : Row g N ys w3 := row_of HRW.out ⟨w3, hI3, hrow⟩
      have HI3 := Aside0.mk hI3
      have HR3' := Aside0.mk HR3
      clear pc0 qc0 pc1 qc1 pc2 qc2 hrow HR3 hI3 inst hIw
      by_cases hc : cf y x < 0
      · have hd : decide (cf y x < 0) = true := decide_eq_true hc
        have hnew : Aside0 (BX (fun t => ltB cf (rdE ys t) x) (a + 1) b (h + 1) j) := ⟨by
          have := HB.out.up (fun p q => HY.out.2.2.2.2.1 p q) hlt (by rw [HH.out, ← HYY.out]; simpa [ltB] using hc)
          rwa [HH.out] at this⟩
        go_wp2
        go_roundw
        case rel => exact ⟨h + 1, j, rfl, rfl, by omega, by omega, by omega, HI3.out, HR3'.out, hnew⟩
        case measure => simp [intOf]; omega
      · have hd : decide (cf y x < 0) = false := decide_eq_false hc
        have hnew : Aside0 (BX (fun t => ltB cf (rdE ys t) x) (a + 1) b i h) := ⟨by
          have := HB.out.down (fun p q => HY.out.2.2.2.2.1 p q) hlt (by rw [HH.out, ← HYY.out]; simpa [ltB] using hc)
          rwa [HH.out] at this⟩
        go_wp2
        go_roundw
        case rel => exact ⟨i, h, rfl, rfl, by omega, by omega, by omega, HI3.out, HR3'.out, hnew⟩
        case measure => simp [intOf]; omega
    · have hie : i = j := by omega
      have hat2 : Row g N (A ++ (V.take (a - a).toNat ++ (x :: (V.drop (a - a).toNat ++ C)))) wr := by
        have := hRw; rw [HY.out.1] at this; simpa using this
      have HAT2 := Aside0.mk hat2
      have HIE := Aside0.mk hie
      clear hRw hat2 hie
      go_wp2_with fail
      go_loopw [13] (fun v13 wr => ∃ k : Int, v13 = .int .i64 k ∧ a ≤ k ∧ k ≤ i - 1 ∧ I wr ∧ Row g N (A ++ (V.take (k - a).toNat ++ (x :: (V.drop (k - a).toNat ++ C)))) wr) (fun v13 _ => (i - intOf v13).toNat)
      case atStart => exact ⟨a, rfl, by omega, by omega, hIw, HAT2.out⟩
      case round =>
        obtain ⟨k, rfl, hak, hki, hIk, hRk⟩ := hrel
        by_cases hk : k < i - 1
        · have hy := HY.out
          have hVl : (k - a).toNat < V.length := by have := HY.out.2.2.2.2.2; omega
          obtain ⟨v, hv⟩ : ∃ v, V.drop (k - a).toNat = v :: V.drop (k + 1 - a).toNat := by
            have e1 : (k + 1 - a).toNat = (k - a).toNat + 1 := by omega
            exact ⟨V[(k - a).toNat], by rw [e1, ← List.drop_eq_getElem_cons hVl]⟩
          have htk : V.take (k + 1 - a).toNat = V.take (k - a).toNat ++ [v] := by
            have e1 : (k + 1 - a).toNat = (k - a).toNat + 1 := by omega
            rw [e1, List.take_succ_eq_append_getElem hVl]
            rw [List.drop_eq_getElem_cons hVl] at hv
            injection hv with hv _
            rw [hv]
          obtain ⟨q, hq⟩ : ∃ q, k + 1 = q := ⟨_, rfl⟩
          obtain ⟨zs, hzs⟩ : ∃ zs, zs = A ++ (V.take (k - a).toNat ++ (x :: (V.drop (k - a).toNat ++ C))) := ⟨_, rfl⟩
          have hzl : zs.length = L := by rw [hzs]; have := HY.out.2.2.2.2.2; simp; omega
          have ek : rdE zs k = x := by
            rw [hzs, ← List.append_assoc]
            exact rd_at _ _ _ _ (by have := HY.out.2.2.2.2.2; simp; omega)
          have eq : rdE zs q = v := by
            rw [hzs, hv, show A ++ (V.take (k - a).toNat ++ (x :: ((v :: V.drop (k + 1 - a).toNat) ++ C))) = (A ++ (V.take (k - a).toNat ++ [x])) ++ v :: (V.drop (k + 1 - a).toNat ++ C) by simp]
            exact rd_at _ _ _ _ (by have := HY.out.2.2.2.2.2; simp; omega)
          have esw : swp zs k.toNat q.toNat = A ++ (V.take (k + 1 - a).toNat ++ (x :: (V.drop (k + 1 - a).toNat ++ C))) := by
            have h3 := swp_app (A ++ V.take (k - a).toNat) [] (V.drop (k + 1 - a).toNat ++ C) x v
            have e3 : (A ++ V.take (k - a).toNat).length = k.toNat := by have := HY.out.2.2.2.2.2; simp; omega
            have e4 : (A ++ V.take (k - a).toNat).length + 1 + ([] : List Seg).length = q.toNat := by have := HY.out.2.2.2.2.2; simp; omega
            rw [e4, e3] at h3
            rw [hzs, hv, htk]
            simpa using h3
          rw [← hzs] at hRk
          obtain ⟨cs, hb, hsz, hlN, hH⟩ := hRk
          have hk0 : 0 ≤ k := by omega
          have hq0 : 0 ≤ q := by omega
          have hkq : k ≠ q := by omega
          have hkL : k < L := by have := HY.out.2.2.2.2.2; omega
          have hqL : q < L := by have := HY.out.2.2.2.2.2; omega
          have hxk := holds_int hH k hk0 (by omega)
          have hxq := holds_int hH q hq0 (by omega)
          have fin := row_swp hb hsz hlN hH k q hk0 (by omega) hq0 (by omega) hkq
          rw [esw, ek, eq] at fin
          rw [ek] at hxk
          rw [eq] at hxq
          obtain ⟨xp0, xp1, xp2⟩ := hxk
          obtain ⟨xq0, xq1, xq2⟩ := hxq
          have pc0 := (blk_cell hb (k.toNat * 3)).trans xp0
          have pc1 := (blk_cell hb (k.toNat * 3 + 1)).trans xp1
          have pc2 := (blk_cell hb (k.toNat * 3 + 2)).trans xp2
          have qc0 := (blk_cell hb (q.toNat * 3)).trans xq0
          have qc1 := (blk_cell hb (q.toNat * 3 + 1)).trans xq1
          have qc2 := (blk_cell hb (q.toNat * 3 + 2)).trans xq2
          have pz0 := blk_frozen hb (k.toNat * 3)
          have pz1 := blk_frozen hb (k.toNat * 3 + 1)
          have pz2 := blk_frozen hb (k.toNat * 3 + 2)
          have qz0 := blk_frozen hb (q.toNat * 3)
          have qz1 := blk_frozen hb (q.toNat * 3 + 1)
          have qz2 := blk_frozen hb (q.toNat * 3 + 2)
          have FIN := Aside0.mk fin
          have HIW := Aside0.mk hIk
          clear hb hsz hlN hH xp0 xq0 xp1 xq1 xp2 xq2 fin esw ek eq hzl hzs htk hv hy hVl hIk
          have hkq' := Aside0.mk hq
          go_wp2_with fail
          go_region
          all_goals go_wp2
          go_roundw
          case rel => exact ⟨q, rfl, by omega, by omega, HS.out.drew _ (HS.out.set _ _ _ (HS.out.set _ _ _ (HS.out.set _ _ _ (HS.out.set _ _ _ (HS.out.set _ _ _ (HS.out.set _ _ _ (HIW.out))))))), by have := row_drew FIN.out; rw [hkq'.out] at this; exact this⟩
          case measure => simp [intOf]; omega
        · have hki2 : k = i - 1 := by omega
          have hfin : SymPost cf g N I A [x] V C (.returned (.tuple #[])) wr := by
            have h := HY.out
            have hB := HB.out
            have hs := one_left o h.2.2.2.2.2.2.2.2 (k - a).toNat (fun z hz => by
              obtain ⟨p, hp, hpl, rfl⟩ := mem_take_rd hz
              have h1 := hB.yes (a + 1 + p) (by omega) (by omega)
              rw [h.2.2.2.1 _ (by omega) (by omega)] at h1
              rwa [show (a + 1 + (p : Int) - (a + 1)).toNat = p by omega] at h1) (fun z hz => by
              obtain ⟨p, hp, hpl, rfl⟩ := mem_drop_rd hz
              have h1 := hB.no (a + 1 + p) (by have := HIE.out; omega) (by omega)
              rw [h.2.2.2.1 _ (by omega) (by omega)] at h1
              rwa [show (a + 1 + (p : Int) - (a + 1)).toNat = p by omega] at h1)
            exact ⟨rfl, hIk, _, by simpa using hRk, hs.1, hs.2⟩
          have HF := Aside0.mk hfin
          clear hfin hRk
          go_wp2
          go_end0
          exact HF.out

set_option maxHeartbeats 4000000 in
set_option maxRecDepth 100000 in
theorem sym_right (gc : Nat) (fst cb : Array Value) (cf : Seg → Seg → Int) (o : SWO (ltB cf)) (g N c L : Nat) (I : World → Prop) (hS : Side Try.prog g gc fst cb cf I)
    (eg : ∀ args w, (callFunc gc args).run Try.prog w = .ok (.enter gc args) w) (a m b : Int) (w : World)
    (hI : I w) (A U C : List Seg) (y : Seg) (hR : Row g N (A ++ (U ++ ([y] ++ C))) w) (ha : a = A.length) (hm0 : m = a + U.length) (hb : b = m + 1) (hU1 : 1 < U.length) (hU : Srt (ltB cf) U) (hm : (A ++ (U ++ ([y] ++ C))).length ≤ 1000000000) (hL : L = (A ++ (U ++ ([y] ++ C))).length) :
    Calls Try.prog 152 #[.slice (some ⟨g, 0, none⟩) L c, .int .i64 a, .int .i64 m, .int .i64 b, .func (.func gc) fst cb] w (SymPost cf g N I A U [y] C) := by
  have hu30 := Try.underlying30
  subst hb
  have ha0 : 0 ≤ a := by omega
  have hlen : A.length + (U.length + (1 + C.length)) = L := by rw [hL]; simp; omega
  rw [← hL] at hm
  have hmL : m < L := by omega
  have ham : a < m := by omega
  have hmn : m ≤ 1000000000 := by omega
  have haL : a < L := by omega
  have ham2 : a + 1 < m := by omega
  obtain ⟨ys, hys⟩ : ∃ ys, ys = A ++ (U ++ ([y] ++ C)) := ⟨_, rfl⟩
  have hyl : ys.length = L := by rw [hys]; exact hL.symm
  rw [← hys] at hR
  have ex : rdE ys m = y := by rw [hys, ← List.append_assoc]; exact rd_at (A ++ U) C y m (by simp; omega)
  have ev : ∀ t, a ≤ t → t < m → rdE ys t = U.getD (t - a).toNat z30 := fun t h1 h2 => by
    rw [hys]
    rw [rd_app_mid A U ([y] ++ C) t (by omega) (by omega)]
    congr 1
    omega
  have mono : ∀ p q, a ≤ p → p ≤ q → q < m → (!ltB cf y (rdE ys q)) = true → (!ltB cf y (rdE ys p)) = true := fun p q h1 h2 h3 h4 => by
    by_cases hpq : p = q
    · rw [hpq]; exact h4
    · have h5 := srt_rd hU (p - a).toNat (q - a).toNat (by omega) (by omega)
      rw [← ev p h1 (by omega), ← ev q (by omega) h3] at h5
      have h6 := o.neg _ _ _ (by simpa using h4) h5
      simp [h6]
  have HR := Aside0.mk hR
  have HY := Aside0.mk (And.intro hys (And.intro hyl (And.intro ex (And.intro ev (And.intro mono (And.intro ha (And.intro hm0 (And.intro hlen hU))))))))
  have HS := Aside0.mk hS
  have HEG := Aside0.mk eg
  have HDR := Aside0.mk hS.drew
  have hd1 : ((m - a : Int) == 1) = false := by simp; omega
  have hd2 : ((m + 1 - m : Int) == 1) = true := by simp; omega
  have he1 : m + 1 - m = 1 := by omega
  clear hR hys hyl ex ev mono ha hm0 hlen hU hS hL hm hU1
  go_enter Try.func152, Try.ntmps152
  go_wp2
  go_loopw [14, 15] (fun v10 v11 wr => ∃ i j : Int, v10 = .int .i64 i ∧ v11 = .int .i64 j ∧ a ≤ i ∧ i ≤ j ∧ j ≤ m ∧ I wr ∧ Row g N ys wr ∧ Aside0 (BX (fun t => !ltB cf y (rdE ys t)) a m i j)) (fun v10 v11 _ => (intOf v11 - intOf v10).toNat)
  case atStart => exact ⟨a, m, rfl, rfl, by omega, by omega, by omega, hI, HR.out, ⟨BX.start _ (by omega)⟩⟩
  case round =>
    obtain ⟨i, j, rfl, rfl, hai, hij, hjb, hIw, hRw, HB⟩ := hrel
    have hin : i ≤ 1000000000 := by omega
    have hjn : j ≤ 1000000000 := by omega
    have hi0 : 0 ≤ i := by omega
    have hj0 : 0 ≤ j := by omega
    by_cases hlt : i < j
    · have inst : Inhabited (InR g I wr) := ⟨⟨wr, hIw, fun _ h => h⟩⟩
      obtain ⟨h, hh⟩ : ∃ h, (i + j) / 2 = h := ⟨_, rfl⟩
      have hh0 : 0 ≤ h := by omega
      have hh1 : h < L := by omega
      have hhi : i ≤ h := by omega
      have hhj : h < j := by omega
      have hhw : IntKind.i64.wrap h = h := by rw [IntKind.wrap_i64]; omega
      obtain ⟨cs, hb, hsz, hlN, hH⟩ := hRw
      obtain ⟨xp0, xp1, xp2⟩ := holds_int hH h hh0 (by rw [HY.out.2.1]; omega)
      have hm0' : 0 ≤ m := by omega
      have hxa := holds_int hH m hm0' (by rw [HY.out.2.1]; omega)
      rw [HY.out.2.2.1] at hxa
      obtain ⟨xq0, xq1, xq2⟩ := hxa
      have pc0 := fun p : InR g I wr => InR.cell hb xp0 p
      have pc1 := fun p : InR g I wr => InR.cell hb xp1 p
      have pc2 := fun p : InR g I wr => InR.cell hb xp2 p
      have qc0 := fun p : InR g I wr => InR.cell hb xq0 p
      have qc1 := fun p : InR g I wr => InR.cell hb xq1 p
      have qc2 := fun p : InR g I wr => InR.cell hb xq2 p
      have HRW := Aside0.mk (⟨cs, hb, hsz, hlN, hH⟩ : Row g N ys wr)
      obtain ⟨z, hy⟩ : ∃ z, z = rdE ys h := ⟨_, rfl⟩
      rw [← hy] at pc0 pc1 pc2
      have HYY := Aside0.mk hy
      have HH := Aside0.mk hh
      have heg := HEG.out
      clear hb hsz hlN hH xp0 xq0 xp1 xq1 xp2 xq2 hy
      go_wp2_with fail
      refine wp_region_inR g I hIw HDR.out (by kernel_rfl) (by kernel_rfl) ?_
      repeat (quiet_step ((exact Calls.inR (HS.out.cmp y z _ (InR.side _)))))
      refine wpQuiet_nil ?_
      rintro w3 ⟨⟨_, hI3, hrow⟩, rfl⟩
      try dsimp only
      have HR3 : Row g N ys w3 := row_of HRW.out ⟨w3, hI3, hrow⟩
      have HI3 := Aside0.mk hI3
      have HR3' := Aside0.mk HR3
      clear pc0 qc0 pc1 qc1 pc2 qc2 hrow HR3 hI3 inst hIw
      by_cases hc : ¬ cf y z < 0
      · have hd : decide (cf y z < 0) = false := decide_eq_false hc
        have hd' : (!decide (cf y z < 0)) = true := by rw [hd]; rfl
        clear hd
        have hnew : Aside0 (BX (fun t => !ltB cf y (rdE ys t)) a m (h + 1) j) := ⟨by
          have := HB.out.up (fun p q => HY.out.2.2.2.2.1 p q) hlt (by rw [HH.out, ← HYY.out]; simpa [ltB] using hc)
          rwa [HH.out] at this⟩
        go_wp2
        any_goals (exfalso; rename_i hx; rw [hd'] at hx; cases hx; done)
        go_roundw
        case rel => exact ⟨h + 1, j, rfl, rfl, by omega, by omega, by omega, HI3.out, HR3'.out, hnew⟩
        case measure => simp [intOf]; omega
      · have hc : cf y z < 0 := by omega
        have hd : decide (cf y z < 0) = true := decide_eq_true hc
        have hd' : (!decide (cf y z < 0)) = false := by rw [hd]; rfl
        clear hd
        have hnew : Aside0 (BX (fun t => !ltB cf y (rdE ys t)) a m i h) := ⟨by
          have := HB.out.down (fun p q => HY.out.2.2.2.2.1 p q) hlt (by rw [HH.out, ← HYY.out]; simpa [ltB] using hc)
          rwa [HH.out] at this⟩
        go_wp2
        any_goals (exfalso; rename_i hx; rw [hd'] at hx; cases hx; done)
        go_roundw
        case rel => exact ⟨i, h, rfl, rfl, by omega, by omega, by omega, HI3.out, HR3'.out, hnew⟩
        case measure => simp [intOf]; omega
    · have hie : i = j := by omega
      have hat2 : Row g N (A ++ (U.take (m - a).toNat ++ (y :: (U.drop (m - a).toNat ++ C)))) wr := by
        have := hRw
        have e1 : (m - a).toNat = U.length := by have := HY.out.2.2.2.2.2; omega
        rw [HY.out.1] at this
        rw [e1, List.take_length, List.drop_length]
        simpa using this
      have HAT2 := Aside0.mk hat2
      have HIE := Aside0.mk hie
      clear hRw hat2 hie
      go_wp2_with fail
      go_loopw [17] (fun v13 wr => ∃ k : Int, v13 = .int .i64 k ∧ i ≤ k ∧ k ≤ m ∧ I wr ∧ Row g N (A ++ (U.take (k - a).toNat ++ (y :: (U.drop (k - a).toNat ++ C)))) wr) (fun v13 _ => (intOf v13).toNat)
      case atStart => exact ⟨m, rfl, by omega, by omega, hIw, HAT2.out⟩
      case round =>
        obtain ⟨k, rfl, hik, hkm, hIk, hRk⟩ := hrel
        by_cases hk : i < k
        · obtain ⟨q, hq⟩ : ∃ q, k - 1 = q := ⟨_, rfl⟩
          have hq2 : k = q + 1 := by omega
          have hVl : (q - a).toNat < U.length := by have := HY.out.2.2.2.2.2; omega
          have e1 : (k - a).toNat = (q - a).toNat + 1 := by omega
          obtain ⟨v, hv⟩ : ∃ v, U.drop (q - a).toNat = v :: U.drop (k - a).toNat := ⟨U[(q - a).toNat], by rw [e1, ← List.drop_eq_getElem_cons hVl]⟩
          have htk : U.take (k - a).toNat = U.take (q - a).toNat ++ [v] := by
            rw [e1, List.take_succ_eq_append_getElem hVl]
            rw [List.drop_eq_getElem_cons hVl] at hv
            injection hv with hv _
            rw [hv]
          obtain ⟨zs, hzs⟩ : ∃ zs, zs = A ++ (U.take (k - a).toNat ++ (y :: (U.drop (k - a).toNat ++ C))) := ⟨_, rfl⟩
          have hzl : zs.length = L := by rw [hzs]; have := HY.out.2.2.2.2.2; simp; omega
          have ek : rdE zs k = y := by
            rw [hzs, ← List.append_assoc]
            exact rd_at _ _ _ _ (by have := HY.out.2.2.2.2.2; simp; omega)
          have eq : rdE zs q = v := by
            rw [hzs, htk, show A ++ ((U.take (q - a).toNat ++ [v]) ++ (y :: (U.drop (k - a).toNat ++ C))) = (A ++ U.take (q - a).toNat) ++ v :: (y :: (U.drop (k - a).toNat ++ C)) by simp]
            exact rd_at _ _ _ _ (by have := HY.out.2.2.2.2.2; simp; omega)
          have esw : swp zs k.toNat q.toNat = A ++ (U.take (q - a).toNat ++ (y :: (U.drop (q - a).toNat ++ C))) := by
            have h3 := swp_app (A ++ U.take (q - a).toNat) [] (U.drop (k - a).toNat ++ C) v y
            have e3 : (A ++ U.take (q - a).toNat).length = q.toNat := by have := HY.out.2.2.2.2.2; simp; omega
            have e4 : (A ++ U.take (q - a).toNat).length + 1 + ([] : List Seg).length = k.toNat := by have := HY.out.2.2.2.2.2; simp; omega
            rw [e4, e3] at h3
            rw [swp_comm _ _ _ (by omega), hzs, hv, htk]
            simpa using h3
          rw [← hzs] at hRk
          obtain ⟨cs, hb, hsz, hlN, hH⟩ := hRk
          have hk0 : 0 ≤ k := by omega
          have hq0 : 0 ≤ q := by omega
          have hkq : k ≠ q := by omega
          have hkL : k < L := by have := HY.out.2.2.2.2.2; omega
          have hqL : q < L := by have := HY.out.2.2.2.2.2; omega
          have hxk := holds_int hH k hk0 (by omega)
          have hxq := holds_int hH q hq0 (by omega)
          have fin := row_swp hb hsz hlN hH k q hk0 (by omega) hq0 (by omega) hkq
          rw [esw, ek, eq] at fin
          rw [ek] at hxk
          rw [eq] at hxq
          obtain ⟨xp0, xp1, xp2⟩ := hxk
          obtain ⟨xq0, xq1, xq2⟩ := hxq
          have pc0 := (blk_cell hb (k.toNat * 3)).trans xp0
          have pc1 := (blk_cell hb (k.toNat * 3 + 1)).trans xp1
          have pc2 := (blk_cell hb (k.toNat * 3 + 2)).trans xp2
          have qc0 := (blk_cell hb (q.toNat * 3)).trans xq0
          have qc1 := (blk_cell hb (q.toNat * 3 + 1)).trans xq1
          have qc2 := (blk_cell hb (q.toNat * 3 + 2)).trans xq2
          have pz0 := blk_frozen hb (k.toNat * 3)
          have pz1 := blk_frozen hb (k.toNat * 3 + 1)
          have pz2 := blk_frozen hb (k.toNat * 3 + 2)
          have qz0 := blk_frozen hb (q.toNat * 3)
          have qz1 := blk_frozen hb (q.toNat * 3 + 1)
          have qz2 := blk_frozen hb (q.toNat * 3 + 2)
          have FIN := Aside0.mk fin
          have HIW := Aside0.mk hIk
          have HQ2 := Aside0.mk hq2
          clear hb hsz hlN hH xp0 xq0 xp1 xq1 xp2 xq2 fin esw ek eq hzl hzs htk hv e1 hVl hIk hq2
          have hkn : k ≤ 1000000000 := by omega
          go_wp2_with fail
          go_region
          all_goals go_wp2
          go_roundw
          case rel => exact ⟨q, rfl, by omega, by omega, HS.out.drew _ (HS.out.set _ _ _ (HS.out.set _ _ _ (HS.out.set _ _ _ (HS.out.set _ _ _ (HS.out.set _ _ _ (HS.out.set _ _ _ (HIW.out))))))), row_drew FIN.out⟩
          case measure => have := HQ2.out; simp [intOf]; omega
        · have hki2 : k = i := by omega
          have hfin : SymPost cf g N I A U [y] C (.returned (.tuple #[])) wr := by
            have h := HY.out
            have hB := HB.out
            have hs := one_right o h.2.2.2.2.2.2.2.2 (k - a).toNat (fun z hz => by
              obtain ⟨p, hp, hpl, rfl⟩ := mem_take_rd hz
              have h1 := hB.yes (a + p) (by omega) (by omega)
              simp only [h.2.2.2.1 (a + p) (by omega) (by omega)] at h1
              rw [show (a + (p : Int) - a).toNat = p by omega] at h1
              simpa using h1) (fun z hz => by
              obtain ⟨p, hp, hpl, rfl⟩ := mem_drop_rd hz
              have h1 := hB.no (a + p) (by have := HIE.out; omega) (by omega)
              simp only [h.2.2.2.1 (a + p) (by omega) (by omega)] at h1
              rw [show (a + (p : Int) - a).toNat = p by omega] at h1
              simpa using h1)
            exact ⟨rfl, hIk, _, by simpa using hRk, hs.1, hs.2⟩
          have HF := Aside0.mk hfin
          clear hfin hRk
          go_wp2
          go_end0
          exact HF.out

end Go.Proofs.Ytddbnncimggogaa.StSeg
end
section
/- Rows of sorted blocks: no program. -/
namespace Go.Proofs.Ytddbnncimggogaa.SP
variable {α : Type} {lt : α → α → Bool}
inductive Bk (lt : α → α → Bool) (s : Nat) : List α → Prop where
  | last (T : List α) : Srt lt T → T.length ≤ s → Bk lt s T
  | cons (U R : List α) : U.length = s → Srt lt U → Bk lt s R → Bk lt s (U ++ R)
/-- Whole blocks. -/
def Full (lt : α → α → Bool) (s : Nat) (E : List α) : Prop := ∀ R, Bk lt s R → Bk lt s (E ++ R)
theorem Full.nil (s : Nat) : Full lt s ([] : List α) := fun _ h => h
theorem Full.snoc {s : Nat} {E M : List α} (h : Full lt s E) (hM : M.length = s) (k : Srt lt M) : Full lt s (E ++ M) := fun R hR => by
  rw [List.append_assoc]
  exact h _ (Bk.cons M R hM k hR)
theorem Bk.uncons {s : Nat} {R : List α} (h : Bk lt s R) (hs : s ≤ R.length) : ∃ U R', R = U ++ R' ∧ U.length = s ∧ Srt lt U ∧ Bk lt s R' := by
  cases h with
  | last _ hT hl => exact ⟨R, [], by simp, by omega, hT, Bk.last [] Srt.nil (by simp)⟩
  | cons U R' hU hS hR => exact ⟨U, R', rfl, hU, hS, hR⟩
theorem Bk.small {s : Nat} {R : List α} (h : Bk lt s R) (hs : R.length ≤ s) (h0 : 0 < s) : Srt lt R := by
  cases h with
  | last _ hT hl => exact hT
  | cons U R' hU hS hR =>
    have : R' = [] := List.eq_nil_of_length_eq_zero (by simp at hs; omega)
    rw [this, List.append_nil]
    exact hS
theorem Bk.two {s : Nat} {R : List α} (h : Bk lt s R) (hs : 2 * s ≤ R.length) : ∃ U V R', R = U ++ (V ++ R') ∧ U.length = s ∧ V.length = s ∧ Srt lt U ∧ Srt lt V ∧ Bk lt s R' := by
  obtain ⟨U, R1, rfl, hU, sU, h1⟩ := h.uncons (by omega)
  obtain ⟨V, R2, rfl, hV, sV, h2⟩ := h1.uncons (by simp at hs; omega)
  exact ⟨U, V, R2, rfl, hU, hV, sU, sV, h2⟩
theorem Bk.tail {s : Nat} {R : List α} (h : Bk lt s R) (h1 : s < R.length) (h2 : R.length < 2 * s) : ∃ U V, R = U ++ V ∧ U.length = s ∧ 0 < V.length ∧ V.length < s ∧ Srt lt U ∧ Srt lt V := by
  obtain ⟨U, V, rfl, hU, sU, hV⟩ := h.uncons (by omega)
  simp at h1 h2
  exact ⟨U, V, rfl, hU, by omega, by omega, sU, hV.small (by omega) (by omega)⟩
end Go.Proofs.Ytddbnncimggogaa.SP
end
section
/- slices.SortStableFunc at livery/api.Seg: the merge of two rows that are neither of one. -/
namespace Go.Proofs.Ytddbnncimggogaa.StSeg
open Go.RowKit Go.Proofs.YtddbnncimggogaaW.PrintWords Go.Proofs.YtddbnncimggogaaW.PrintLast Go.Proofs.YtddbnncimggogaaW.PrintMore Go.Proofs.Ytddbnncimggogaa.Pb Go.Proofs.Ytddbnncimggogaa.Lv Go.Proofs.Ytddbnncimggogaa.SP
set_option maxHeartbeats 4000000 in
set_option maxRecDepth 100000 in
theorem sym_mid (gc : Nat) (fst cb : Array Value) (cf : Seg → Seg → Int) (o : SWO (ltB cf)) (g N c L : Nat) (I : World → Prop) (hS : Side Try.prog g gc fst cb cf I)
    (eg : ∀ args w, (callFunc gc args).run Try.prog w = .ok (.enter gc args) w) (d : Nat)
    (ih : ∀ (a m b : Int) (w : World) (A U V C : List Seg), I w → Row g N (A ++ (U ++ (V ++ C))) w → a = A.length → m = a + U.length → b = m + V.length → 0 < U.length → 0 < V.length → Srt (ltB cf) U → Srt (ltB cf) V → (A ++ (U ++ (V ++ C))).length ≤ 1000000000 → L = (A ++ (U ++ (V ++ C))).length → U.length + V.length ≤ d →
      Calls Try.prog 152 #[.slice (some ⟨g, 0, none⟩) L c, .int .i64 a, .int .i64 m, .int .i64 b, .func (.func gc) fst cb] w (SymPost cf g N I A U V C))
    (a m b mid : Int) (w : World) (A U V C : List Seg) (hI : I w) (hR : Row g N (A ++ (U ++ (V ++ C))) w) (ha : a = A.length) (hm0 : m = a + U.length) (hb : b = m + V.length) (hU1 : 1 < U.length) (hV1 : 1 < V.length) (hU : Srt (ltB cf) U) (hV : Srt (ltB cf) V)
    (hm : (A ++ (U ++ (V ++ C))).length ≤ 1000000000) (hL : L = (A ++ (U ++ (V ++ C))).length) (hd : U.length + V.length ≤ d + 1) (hmid : mid = (a + b) / 2) :
    Calls Try.prog 152 #[.slice (some ⟨g, 0, none⟩) L c, .int .i64 a, .int .i64 m, .int .i64 b, .func (.func gc) fst cb] w (SymPost cf g N I A U V C) := by
  have hu30 := Try.underlying30
  have ha0 : 0 ≤ a := by omega
  have hlen : A.length + (U.length + (V.length + C.length)) = L := by rw [hL]; simp
  rw [← hL] at hm
  have ham : a + 2 ≤ m := by omega
  have hmb : m + 2 ≤ b := by omega
  have hbL : b ≤ L := by omega
  have hbn : b ≤ 1000000000 := by omega
  have hm1 : 0 ≤ m := by omega
  have hb1 : 0 ≤ b := by omega
  obtain ⟨ys, hys⟩ : ∃ ys, ys = A ++ (U ++ (V ++ C)) := ⟨_, rfl⟩
  have hyl : ys.length = L := by rw [hys]; exact hL.symm
  rw [← hys] at hR
  have eu : ∀ t, a ≤ t → t < m → rdE ys t = U.getD (t - a).toNat z30 := fun t h1 h2 => by
    rw [hys, rd_app_mid A U (V ++ C) t (by omega) (by omega)]
    congr 1
    omega
  have ev : ∀ t, m ≤ t → t < b → rdE ys t = V.getD (t - m).toNat z30 := fun t h1 h2 => by
    rw [hys, ← List.append_assoc, rd_app_mid (A ++ U) V C t (by simp; omega) (by simp; omega)]
    congr 1
    simp
    omega
  have mono : ∀ p q, a ≤ p → mid + m - b ≤ p → p ≤ q → q < m → q < mid → (!ltB cf (rdE ys (mid + m - 1 - q)) (rdE ys q)) = true → (!ltB cf (rdE ys (mid + m - 1 - p)) (rdE ys p)) = true := fun p q h0 h1 h2 h3 h3b h4 => by
    by_cases hpq : p = q
    · rw [hpq]; exact h4
    · have h5 := srt_rd hU (p - a).toNat (q - a).toNat (by omega) (by omega)
      have h6 := srt_rd hV (mid + m - 1 - q - m).toNat (mid + m - 1 - p - m).toNat (by omega) (by omega)
      rw [← eu p (by omega) (by omega), ← eu q (by omega) (by omega)] at h5
      rw [← ev (mid + m - 1 - q) (by omega) (by omega), ← ev (mid + m - 1 - p) (by omega) (by omega)] at h6
      have h7 := o.neg _ _ _ (o.neg _ _ _ h6 (by simpa using h4)) h5
      simp [h7]
  have HR := Aside0.mk hR
  have HY := Aside0.mk (And.intro hys (And.intro hyl (And.intro eu (And.intro ev (And.intro mono (And.intro ha (And.intro hm0 (And.intro hb (And.intro hlen (And.intro hU (And.intro hV (And.intro hd hmid))))))))))))
  have HS := Aside0.mk hS
  have HIH := Aside0.mk ih
  have HEG := Aside0.mk eg
  have HDR := Aside0.mk hS.drew
  have hd1 : ((m - a : Int) == 1) = false := by simp; omega
  have hd2 : ((b - m : Int) == 1) = false := by simp; omega
  have hq1 : (a + b) / 2 = mid := hmid.symm
  have hmid0 : 0 ≤ mid := by omega
  have hmidn : mid ≤ 1000000000 := by omega
  have hamid : a < mid := by omega
  have hmidb : mid < b := by omega
  clear hR hys hyl eu ev mono ha hm0 hb hlen hU hV hS hL hU1 hV1 hd ih hmid
  go_enter Try.func152, Try.ntmps152
  go_upto_if 140 with fail
  go_cut [20, 21] from 138 to 146 (fun v20 v21 wx => wx = w ∧ ∃ lo hi : Int, v20 = .int .i64 lo ∧ v21 = .int .i64 hi ∧ a ≤ lo ∧ mid + m - b ≤ lo ∧ hi ≤ m ∧ hi ≤ mid ∧ lo ≤ hi ∧ Aside0 ((lo = a ∨ lo = mid + m - b) ∧ (hi = m ∨ hi = mid)))
  case first =>
    by_cases e : m > mid
    · go_wp2_with fail
      go_meet
      case rel => exact ⟨rfl, mid + m - b, mid, rfl, rfl, by omega, by omega, by omega, by omega, by omega, ⟨Or.inr rfl, Or.inr rfl⟩⟩
    · go_wp2_with fail
      go_meet
      case rel => exact ⟨rfl, a, m, rfl, rfl, by omega, by omega, by omega, by omega, by omega, ⟨Or.inl rfl, Or.inl rfl⟩⟩
  obtain ⟨rfl, lo, hi, rfl, rfl, hlo1, hlo2, hhi1, hhi2, hlh, HDJ⟩ := hcut
  go_wp2
  go_loopw [20, 21] (fun v20 v21 wr => ∃ s r : Int, v20 = .int .i64 s ∧ v21 = .int .i64 r ∧ lo ≤ s ∧ s ≤ r ∧ r ≤ hi ∧ I wr ∧ Row g N ys wr ∧ Aside0 (BX (fun t => !ltB cf (rdE ys (mid + m - 1 - t)) (rdE ys t)) lo hi s r)) (fun v20 v21 _ => (intOf v21 - intOf v20).toNat)
  case atStart => exact ⟨lo, hi, rfl, rfl, by omega, by omega, by omega, hI, HR.out, ⟨BX.start _ (by omega)⟩⟩
  case round =>
    obtain ⟨s, r, rfl, rfl, hls, hsr, hrh, hIw, hRw, HB⟩ := hrel
    have hsn : s ≤ 1000000000 := by omega
    have hrn : r ≤ 1000000000 := by omega
    have hs0 : 0 ≤ s := by omega
    have hr0 : 0 ≤ r := by omega
    by_cases hlt : s < r
    · have inst : Inhabited (InR g I wr) := ⟨⟨wr, hIw, fun _ h => h⟩⟩
      obtain ⟨h, hh⟩ : ∃ h, (s + r) / 2 = h := ⟨_, rfl⟩
      obtain ⟨q, hq⟩ : ∃ q, mid + m - 1 - h = q := ⟨_, rfl⟩
      have hh0 : 0 ≤ h := by omega
      have hh1 : h < L := by omega
      have hhi : s ≤ h := by omega
      have hhj : h < r := by omega
      have hq0 : 0 ≤ q := by omega
      have hqL : q < L := by omega
      have hhw : IntKind.i64.wrap h = h := by rw [IntKind.wrap_i64]; omega
      have hqw : IntKind.i64.wrap q = q := by rw [IntKind.wrap_i64]; omega
      obtain ⟨cs, hb, hsz, hlN, hH⟩ := hRw
      obtain ⟨xp0, xp1, xp2⟩ := holds_int hH h hh0 (by rw [HY.out.2.1]; omega)
      obtain ⟨xq0, xq1, xq2⟩ := holds_int hH q hq0 (by rw [HY.out.2.1]; omega)
      have pc0 := fun p : InR g I wr => InR.cell hb xp0 p
      have pc1 := fun p : InR g I wr => InR.cell hb xp1 p
      have pc2 := fun p : InR g I wr => InR.cell hb xp2 p
      have qc0 := fun p : InR g I wr => InR.cell hb xq0 p
      have qc1 := fun p : InR g I wr => InR.cell hb xq1 p
      have qc2 := fun p : InR g I wr => InR.cell hb xq2 p
      have HRW := Aside0.mk (⟨cs, hb, hsz, hlN, hH⟩ : Row g N ys wr)
      obtain ⟨x, hx⟩ : ∃ x, x = rdE ys h := ⟨_, rfl⟩
      obtain ⟨y, hy⟩ : ∃ y, y = rdE ys q := ⟨_, rfl⟩
      rw [← hx] at pc0 pc1 pc2
      rw [← hy] at qc0 qc1 qc2
      have HXY := Aside0.mk (And.intro hx hy)
      have HH := Aside0.mk (And.intro hh hq)
      have heg := HEG.out
      clear hb hsz hlN hH xp0 xq0 xp1 xq1 xp2 xq2 hx hy
      go_wp2_with fail
      refine wp_region_inR g I hIw HDR.out (by kernel_rfl) (by kernel_rfl) ?_
      repeat (quiet_step ((exact Calls.inR (HS.out.cmp y x _ (InR.side _)))))
      refine wpQuiet_nil ?_
      rintro w3 ⟨⟨_, hI3, hrow⟩, rfl⟩
      try dsimp only
      have HR3 : Row g N ys w3 := row_of HRW.out ⟨w3, hI3, hrow⟩
      have HI3 := Aside0.mk hI3
      have HR3' := Aside0.mk HR3
      clear pc0 qc0 pc1 qc1 pc2 qc2 hrow HR3 hI3 inst hIw
      have epr : (!ltB cf (rdE ys (mid + m - 1 - h)) (rdE ys h)) = !decide (cf y x < 0) := by rw [HH.out.2, ← HXY.out.1, ← HXY.out.2]; rfl
      have EPR := Aside0.mk epr
      clear epr
      by_cases hc : cf y x < 0
      · have hd : decide (cf y x < 0) = true := decide_eq_true hc
        have hd' : (!decide (cf y x < 0)) = false := by rw [hd]; rfl
        have hnew : Aside0 (BX (fun t => !ltB cf (rdE ys (mid + m - 1 - t)) (rdE ys t)) lo hi s h) := ⟨by
          have := HB.out.down (fun p q h1 h2 h3 => HY.out.2.2.2.2.1 p q (by omega) (by omega) h2 (by omega) (by omega)) hlt (by rw [HH.out.1, EPR.out]; exact hd')
          rwa [HH.out.1] at this⟩
        clear hd
        go_wp2
        any_goals (exfalso; rename_i hx; rw [hd'] at hx; cases hx; done)
        go_roundw
        case rel => exact ⟨s, h, rfl, rfl, by omega, by omega, by omega, HI3.out, HR3'.out, hnew⟩
        case measure => simp [intOf]; omega
      · have hd : decide (cf y x < 0) = false := decide_eq_false hc
        have hd' : (!decide (cf y x < 0)) = true := by rw [hd]; rfl
        have hnew : Aside0 (BX (fun t => !ltB cf (rdE ys (mid + m - 1 - t)) (rdE ys t)) lo hi (h + 1) r) := ⟨by
          have := HB.out.up (fun p q h1 h2 h3 => HY.out.2.2.2.2.1 p q (by omega) (by omega) h2 (by omega) (by omega)) hlt (by rw [HH.out.1, EPR.out]; exact hd')
          rwa [HH.out.1] at this⟩
        clear hd
        go_wp2
        any_goals (exfalso; rename_i hx; rw [hd'] at hx; cases hx; done)
        go_roundw
        case rel => exact ⟨h + 1, r, rfl, rfl, by omega, by omega, by omega, HI3.out, HR3'.out, hnew⟩
        case measure => simp [intOf]; omega
    · obtain rfl : s = r := by omega
      obtain ⟨en, hen⟩ : ∃ en, mid + m - s = en := ⟨_, rfl⟩
      have hy := HY.out
      have hB := HB.out
      obtain ⟨l1, hl1⟩ : ∃ l1, l1 = U.take (s - a).toNat := ⟨_, rfl⟩
      obtain ⟨l2, hl2⟩ : ∃ l2, l2 = U.drop (s - a).toNat := ⟨_, rfl⟩
      obtain ⟨r1, hr1⟩ : ∃ r1, r1 = V.take (en - m).toNat := ⟨_, rfl⟩
      obtain ⟨r2, hr2⟩ : ∃ r2, r2 = V.drop (en - m).toNat := ⟨_, rfl⟩
      have hUs : l1 ++ l2 = U := by rw [hl1, hl2, List.take_append_drop]
      have hVs : r1 ++ r2 = V := by rw [hr1, hr2, List.take_append_drop]
      have n1 : (l1.length : Int) = s - a := by rw [hl1]; simp; omega
      have n2 : (l2.length : Int) = m - s := by rw [hl2]; simp; omega
      have n3 : (r1.length : Int) = en - m := by rw [hr1]; simp; omega
      have n4 : (r2.length : Int) = b - en := by rw [hr2]; simp; omega
      have c1 : ∀ x ∈ l1, ∀ y ∈ r2, ltB cf y x = false := fun x hx y hy2 => by
        rw [hl1] at hx; rw [hr2] at hy2
        obtain ⟨p, hp, hpl, rfl⟩ := mem_take_rd hx
        obtain ⟨q, hq, hql, rfl⟩ := mem_drop_rd hy2
        have hdj := HDJ.out.1
        have h1 := hB.yes (s - 1) (by rcases hdj with h | h <;> omega) (by omega)
        have h2 : U.getD p z30 = rdE ys (a + p) := by rw [hy.2.2.1 _ (by omega) (by omega)]; congr 1; omega
        have h3 : V.getD q z30 = rdE ys (m + q) := by rw [hy.2.2.2.1 _ (by omega) (by omega)]; congr 1; omega
        rw [h2, h3]
        have h4 : ltB cf (rdE ys (s - 1)) (rdE ys (a + p)) = false := by
          by_cases e : s - 1 = a + p
          · rw [e]; exact o.irr _
          · rw [hy.2.2.1 _ (by omega) (by omega), hy.2.2.1 (a + p) (by omega) (by omega)]
            exact srt_rd hy.2.2.2.2.2.2.2.2.2.1 _ _ (by omega) (by omega)
        have h5 : ltB cf (rdE ys (m + q)) (rdE ys (mid + m - 1 - (s - 1))) = false := by
          by_cases e : m + q = mid + m - 1 - (s - 1)
          · rw [← e]; exact o.irr _
          · rw [hy.2.2.2.1 (m + q) (by omega) (by omega), hy.2.2.2.1 (mid + m - 1 - (s - 1)) (by omega) (by omega)]
            exact srt_rd hy.2.2.2.2.2.2.2.2.2.2.1 _ _ (by omega) (by omega)
        exact o.neg _ _ _ (o.neg _ _ _ h5 (by simpa using h1)) h4
      have c2 : ∀ x ∈ l2, ∀ y ∈ r1, ltB cf y x = true := fun x hx y hy2 => by
        rw [hl2] at hx; rw [hr1] at hy2
        obtain ⟨p, hp, hpl, rfl⟩ := mem_drop_rd hx
        obtain ⟨q, hq, hql, rfl⟩ := mem_take_rd hy2
        have hdj := HDJ.out.2
        have h1 := hB.no s (by omega) (by rcases hdj with h | h <;> omega)
        have h2 : U.getD p z30 = rdE ys (a + p) := by rw [hy.2.2.1 _ (by omega) (by omega)]; congr 1; omega
        have h3 : V.getD q z30 = rdE ys (m + q) := by rw [hy.2.2.2.1 _ (by omega) (by omega)]; congr 1; omega
        rw [h2, h3]
        have h4 : ltB cf (rdE ys (a + p)) (rdE ys s) = false := by
          by_cases e : s = a + p
          · rw [e]; exact o.irr _
          · rw [hy.2.2.1 (a + p) (by omega) (by omega), hy.2.2.1 s (by omega) (by omega)]
            exact srt_rd hy.2.2.2.2.2.2.2.2.2.1 _ _ (by omega) (by omega)
        have h5 : ltB cf (rdE ys (mid + m - 1 - s)) (rdE ys (m + q)) = false := by
          by_cases e : m + q = mid + m - 1 - s
          · rw [← e]; exact o.irr _
          · rw [hy.2.2.2.1 (m + q) (by omega) (by omega), hy.2.2.2.1 (mid + m - 1 - s) (by omega) (by omega)]
            exact srt_rd hy.2.2.2.2.2.2.2.2.2.2.1 _ _ (by omega) (by omega)
        cases e : ltB cf (rdE ys (m + q)) (rdE ys (a + p))
        · have h6 := o.neg _ _ _ (o.neg _ _ _ h5 e) h4
          simp [h6] at h1
        · rfl
      have sU : Srt (ltB cf) (l1 ++ l2) := by rw [hUs]; exact hy.2.2.2.2.2.2.2.2.2.1
      have sV : Srt (ltB cf) (r1 ++ r2) := by rw [hVs]; exact hy.2.2.2.2.2.2.2.2.2.2.1
      have hfin : ∀ (w' : World) (m1 m2 : List Seg), I w' → Row g N (A ++ (m1 ++ (m2 ++ C))) w' → Srt (ltB cf) m1 → Srt (ltB cf) m2 → Stb (ltB cf) (l1 ++ r1) m1 → Stb (ltB cf) (l2 ++ r2) m2 → SymPost cf g N I A U V C (.returned (.tuple #[])) w' := fun w' m1 m2 h1 h2 h3 h4 h5 h6 => by
        have := merge_cut o sU sV c1 c2 h3 h4 h5 h6
        rw [hUs, hVs] at this
        exact ⟨rfl, h1, m1 ++ m2, by simpa using h2, this.1, this.2⟩
      have hR0 : Row g N (A ++ (l1 ++ (l2 ++ (r1 ++ (r2 ++ C))))) wr := by
        have := hRw; rw [hy.1, ← hUs, ← hVs] at this; simpa using this
      have hAL : (A.length : Int) = a := by have := hy.2.2.2.2.2.1; omega
      have hLL : A.length + (l1.length + (l2.length + (r1.length + (r2.length + C.length)))) = L := by
        have := hy.2.2.2.2.2.2.2.2.1; rw [← hUs, ← hVs] at this; simp at this; omega
      have hdd : l1.length + l2.length + (r1.length + r2.length) ≤ d + 1 := by
        have := hy.2.2.2.2.2.2.2.2.2.2.2.1; rw [← hUs, ← hVs] at this; simp at this; omega
      have HF := Aside0.mk hfin
      have HN := Aside0.mk (And.intro n1 (And.intro n2 (And.intro n3 (And.intro n4 (And.intro hAL (And.intro hLL (And.intro hdd (And.intro sU (And.intro sV hen)))))))))
      have hen0 : 0 ≤ en := by omega
      have henb : en ≤ b := by omega
      have hmen : m ≤ en := by omega
      have hsm : s ≤ m := by omega
      have has : a ≤ s := by omega
      have hsmid : s ≤ mid := by omega
      have hmiden : mid ≤ en := by omega
      have henn : en ≤ 1000000000 := by omega
      have HR0 := Aside0.mk hR0
      clear hy hB hl1 hl2 hr1 hr2 hUs hVs n1 n2 n3 n4 c1 c2 sU sV hfin hRw hR0 hAL hLL hdd
      clear HB HDJ hlt hrn hr0
      go_upto_region 39 with fail
      go_cut [185] from 178 to 185 (fun v wx => wx = wr ∧ ∃ q : Bool, v = .bool q ∧ Aside0 (q = decide (s < m ∧ m < en)))
      case first =>
        by_cases e1 : s < m
        · have t1 : decide (s < m) = true := decide_eq_true e1
          by_cases e2 : m < en
          · have t2 : decide (m < en) = true := decide_eq_true e2
            go_wp2_with fail
            go_meet
            case rel => exact ⟨rfl, _, rfl, ⟨by simp [t1, t2]⟩⟩
          · have t2 : decide (m < en) = false := decide_eq_false e2
            go_wp2_with fail
            go_meet
            case rel => exact ⟨rfl, _, rfl, ⟨by simp [t1, t2]⟩⟩
        · have t1 : decide (s < m) = false := decide_eq_false e1
          go_wp2_with fail
          go_meet
          case rel => exact ⟨rfl, _, rfl, ⟨by simp [t1]⟩⟩
      obtain ⟨rfl, q, rfl, HQ⟩ := hcut
      go_upto_if 185 with fail
      go_cut [] from 185 to 191 (fun wx => I wx ∧ Row g N (A ++ (l1 ++ (r1 ++ (l2 ++ (r2 ++ C))))) wx)
      case first =>
        cases q
        case true =>
          have e : s < m ∧ m < en := of_decide_eq_true (HQ.out).symm
          have e1 := e.1
          have e2 := e.2
          go_wp2_with fail
          refine (rotate_calls g N c L s m en (.func (.func gc) fst cb) I _ wc HS.out.set HS.out.drew hIw HR0.out (A ++ l1) l2 r1 (r2 ++ C) (by simp) (by have := HN.out; simp; omega) (by have := HN.out; simp; omega) (by have := HN.out; simp; omega) (by have := HN.out; omega) (by have := HN.out; omega) (by have := HN.out; simp; omega) (by have := HN.out; simp; omega)).mono ?_
          rintro e w4 ⟨rfl, hI4, hR4'⟩
          have hR4 : Row g N (A ++ (l1 ++ (r1 ++ (l2 ++ (r2 ++ C))))) w4 := by simpa using hR4'
          clear hR4'
          go_wp2_with fail
          go_meet
          case rel => exact ⟨hI4, hR4⟩
        case false =>
          have e : ¬ (s < m ∧ m < en) := of_decide_eq_false (HQ.out).symm
          have hR4 : Row g N (A ++ (l1 ++ (r1 ++ (l2 ++ (r2 ++ C))))) wc := by
            have h0 := HR0.out
            have hn := HN.out
            by_cases e1 : s < m
            · have e0 : r1 = [] := List.eq_nil_of_length_eq_zero (by omega)
              rw [e0] at h0 ⊢
              simpa using h0
            · have e0 : l2 = [] := List.eq_nil_of_length_eq_zero (by omega)
              rw [e0] at h0 ⊢
              simpa using h0
          have HR4 := Aside0.mk hR4
          clear hR4 e
          go_wp2_with fail
          go_meet
          case rel => exact ⟨hIw, HR4.out⟩
      clear HR0 hIw
      obtain ⟨hIw, hR4⟩ := hcut
      have HR4 := Aside0.mk hR4
      clear hR4
      obtain ⟨w4, hw4⟩ : ∃ w4, w4 = wc := ⟨_, rfl⟩
      rw [← hw4] at hIw HR4 ⊢
      clear hw4
      go_upto_region 41 with fail
      go_cut [199] from 192 to 199 (fun v wx => wx = w4 ∧ ∃ q : Bool, v = .bool q ∧ Aside0 (q = decide (a < s ∧ s < mid)))
      case first =>
        by_cases e1 : a < s
        · have t1 : decide (a < s) = true := decide_eq_true e1
          by_cases e2 : s < mid
          · have t2 : decide (s < mid) = true := decide_eq_true e2
            go_wp2_with fail
            go_meet
            case rel => exact ⟨rfl, _, rfl, ⟨by simp [t1, t2]⟩⟩
          · have t2 : decide (s < mid) = false := decide_eq_false e2
            go_wp2_with fail
            go_meet
            case rel => exact ⟨rfl, _, rfl, ⟨by simp [t1, t2]⟩⟩
        · have t1 : decide (a < s) = false := decide_eq_false e1
          go_wp2_with fail
          go_meet
          case rel => exact ⟨rfl, _, rfl, ⟨by simp [t1]⟩⟩
      obtain ⟨rfl, q, rfl, HQ⟩ := hcut
      go_upto_if 199 with fail
      go_cut [] from 199 to 205 (fun wx => I wx ∧ ∃ m1, Row g N (A ++ (m1 ++ (l2 ++ (r2 ++ C)))) wx ∧ Srt (ltB cf) m1 ∧ Stb (ltB cf) (l1 ++ r1) m1 ∧ l1.length + r1.length = m1.length)
      case first =>
        cases q
        case true =>
          have e : a < s ∧ s < mid := of_decide_eq_true (HQ.out).symm
          have e1 := e.1
          have e2 := e.2
          go_wp2_with fail
          refine (HIH.out a s mid _ A l1 r1 (l2 ++ (r2 ++ C)) hIw HR4.out (by have := HN.out; omega) (by have := HN.out; omega) (by have := HN.out; omega) (by have := HN.out; omega) (by have := HN.out; omega) HN.out.2.2.2.2.2.2.2.1.left HN.out.2.2.2.2.2.2.2.2.1.left (by have := HN.out; simp; omega) (by have := HN.out; simp; omega) (by have := HN.out; omega)).mono ?_
          rintro e w5 ⟨rfl, hI5, m1, hR5, hs1, hk1⟩
          have hl5 := hk1.1
          simp only [List.length_append] at hl5
          have HX := Aside0.mk (And.intro hR5 (And.intro hs1 (And.intro hk1 hl5)))
          clear hR5 hs1 hk1 hl5
          go_wp2_with fail
          go_meet
          case rel => exact ⟨hI5, m1, HX.out⟩
        case false =>
          have e : ¬ (a < s ∧ s < mid) := of_decide_eq_false (HQ.out).symm
          have hs1 : Srt (ltB cf) (l1 ++ r1) := by
            have hn := HN.out
            by_cases e1 : a < s
            · have e0 : r1 = [] := List.eq_nil_of_length_eq_zero (by omega)
              rw [e0]; simp; exact hn.2.2.2.2.2.2.2.1.left
            · have e0 : l1 = [] := List.eq_nil_of_length_eq_zero (by omega)
              rw [e0]; simp; exact hn.2.2.2.2.2.2.2.2.1.left
          have HX := Aside0.mk hs1
          clear hs1 e
          go_wp2_with fail
          go_meet
          case rel => exact ⟨hIw, l1 ++ r1, by simpa using HR4.out, HX.out, Stb.refl _, by simp⟩
      clear HR4 hIw
      obtain ⟨hIw, m1, hR5, hs1, hk1, hl5⟩ := hcut
      have HR5 := Aside0.mk hR5
      have HM1 := Aside0.mk (And.intro hs1 (And.intro hk1 hl5))
      clear hR5 hs1 hk1 hl5
      obtain ⟨w5, hw5⟩ : ∃ w5, w5 = wc := ⟨_, rfl⟩
      rw [← hw5] at hIw HR5 ⊢
      clear hw5
      go_upto_region 43 with fail
      go_cut [213] from 206 to 213 (fun v wx => wx = w5 ∧ ∃ q : Bool, v = .bool q ∧ Aside0 (q = decide (mid < en ∧ en < b)))
      case first =>
        by_cases e1 : mid < en
        · have t1 : decide (mid < en) = true := decide_eq_true e1
          by_cases e2 : en < b
          · have t2 : decide (en < b) = true := decide_eq_true e2
            go_wp2_with fail
            go_meet
            case rel => exact ⟨rfl, _, rfl, ⟨by simp [t1, t2]⟩⟩
          · have t2 : decide (en < b) = false := decide_eq_false e2
            go_wp2_with fail
            go_meet
            case rel => exact ⟨rfl, _, rfl, ⟨by simp [t1, t2]⟩⟩
        · have t1 : decide (mid < en) = false := decide_eq_false e1
          go_wp2_with fail
          go_meet
          case rel => exact ⟨rfl, _, rfl, ⟨by simp [t1]⟩⟩
      obtain ⟨rfl, q, rfl, HQ⟩ := hcut
      cases q
      case true =>
        have e : mid < en ∧ en < b := of_decide_eq_true (HQ.out).symm
        have e1 := e.1
        have e2 := e.2
        go_wp2_with fail
        refine (HIH.out mid en b _ (A ++ m1) l2 r2 C hIw (by simpa using HR5.out) (by have := HN.out; have := HM1.out.2.2; simp; omega) (by have := HN.out; omega) (by have := HN.out; omega) (by have := HN.out; omega) (by have := HN.out; omega) HN.out.2.2.2.2.2.2.2.1.right HN.out.2.2.2.2.2.2.2.2.1.right (by have := HN.out; have := HM1.out.2.2; simp; omega) (by have := HN.out; have := HM1.out.2.2; simp; omega) (by have := HN.out; omega)).mono ?_
        rintro e w6 ⟨rfl, hI6, m2, hR6, hs2, hk2⟩
        have HX := Aside0.mk (HF.out w6 m1 m2 hI6 (by simpa using hR6) HM1.out.1 hs2 HM1.out.2.1 hk2)
        clear hR6 hs2 hk2
        go_wp2
        go_end0
        exact HX.out
      case false =>
        have e : ¬ (mid < en ∧ en < b) := of_decide_eq_false (HQ.out).symm
        have hs2 : Srt (ltB cf) (l2 ++ r2) := by
          have hn := HN.out
          by_cases e1 : mid < en
          · have e0 : r2 = [] := List.eq_nil_of_length_eq_zero (by omega)
            rw [e0]; simp; exact hn.2.2.2.2.2.2.2.1.right
          · have e0 : l2 = [] := List.eq_nil_of_length_eq_zero (by omega)
            rw [e0]; simp; exact hn.2.2.2.2.2.2.2.2.1.right
        have HX := Aside0.mk (HF.out _ m1 (l2 ++ r2) hIw (by simpa using HR5.out) HM1.out.1 hs2 HM1.out.2.1 (Stb.refl _))
        clear hs2 e
        go_wp2
        go_end0
        exact HX.out

end Go.Proofs.Ytddbnncimggogaa.StSeg
end
section
/- slices.SortStableFunc at livery/api.Seg: whole. -/
namespace Go.Proofs.Ytddbnncimggogaa.StSeg
open Go.RowKit Go.Proofs.YtddbnncimggogaaW.PrintWords Go.Proofs.YtddbnncimggogaaW.PrintLast Go.Proofs.YtddbnncimggogaaW.PrintMore Go.Proofs.Ytddbnncimggogaa.Pb Go.Proofs.Ytddbnncimggogaa.Lv Go.Proofs.Ytddbnncimggogaa.SP
theorem symMerge_calls (gc : Nat) (fst cb : Array Value) (cf : Seg → Seg → Int) (o : SWO (ltB cf)) (g N c L : Nat) (I : World → Prop) (hS : Side Try.prog g gc fst cb cf I)
    (eg : ∀ args w, (callFunc gc args).run Try.prog w = .ok (.enter gc args) w) : ∀ (d : Nat) (a m b : Int) (w : World) (A U V C : List Seg), I w → Row g N (A ++ (U ++ (V ++ C))) w → a = A.length → m = a + U.length → b = m + V.length → 0 < U.length → 0 < V.length → Srt (ltB cf) U → Srt (ltB cf) V → (A ++ (U ++ (V ++ C))).length ≤ 1000000000 → L = (A ++ (U ++ (V ++ C))).length → U.length + V.length ≤ d →
      Calls Try.prog 152 #[.slice (some ⟨g, 0, none⟩) L c, .int .i64 a, .int .i64 m, .int .i64 b, .func (.func gc) fst cb] w (SymPost cf g N I A U V C)
  | 0, a, m, b, w, A, U, V, C, hI, hR, ha, hm0, hb, hU0, hV0, hU, hV, hm, hL, hd => by omega
  | d + 1, a, m, b, w, A, U, V, C, hI, hR, ha, hm0, hb, hU0, hV0, hU, hV, hm, hL, hd => by
    by_cases h1 : U.length = 1
    · obtain ⟨x, rfl⟩ : ∃ x, U = [x] := List.length_eq_one_iff.1 h1
      exact sym_left gc fst cb cf o g N c L I hS eg a m b w hI A V C x hR ha (by simpa using hm0) hb hV0 hV hm hL
    · by_cases h2 : V.length = 1
      · obtain ⟨y, rfl⟩ : ∃ y, V = [y] := List.length_eq_one_iff.1 h2
        exact sym_right gc fst cb cf o g N c L I hS eg a m b w hI A U C y hR ha hm0 (by simpa using hb) (by omega) hU hm hL
      · exact sym_mid gc fst cb cf o g N c L I hS eg d (symMerge_calls gc fst cb cf o g N c L I hS eg d) a m b _ w A U V C hI hR ha hm0 hb (by omega) (by omega) hU hV hm hL hd rfl

set_option maxHeartbeats 4000000 in
set_option maxRecDepth 100000 in
theorem stable_calls (gc : Nat) (fst cb : Array Value) (cf : Seg → Seg → Int) (o : SWO (ltB cf)) (g N c L : Nat) (n : Int) (I : World → Prop) (hS : Side Try.prog g gc fst cb cf I)
    (eg : ∀ args w, (callFunc gc args).run Try.prog w = .ok (.enter gc args) w)
    (xs : List Seg) (w : World) (hI : I w) (hR : Row g N xs w) (hm : xs.length ≤ 1000000000) (hL : L = xs.length) (hn : n = L) :
    Calls Try.prog 139 #[.slice (some ⟨g, 0, none⟩) L c, .int .i64 n, .func (.func gc) fst cb] w fun e w' => e = .returned (.tuple #[]) ∧ I w' ∧ Row g N (sortS (ltB cf) xs) w' := by
  have hnn : n ≤ 1000000000 := by omega
  have hn0 : 0 ≤ n := by omega
  have hxn : (xs.length : Int) = n := by omega
  have HX := Aside0.mk (And.intro hxn (And.intro hL hm))
  have HR := Aside0.mk hR
  have HS := Aside0.mk hS
  have HEG := Aside0.mk eg
  have HO := Aside0.mk o
  have hI0 := hI
  clear hxn hR hS hL hm hn o
  go_enter Try.func139, Try.ntmps139
  go_wp2
  go_loopw [7, 8] (fun v7 v8 wr => ∃ a : Int, v7 = .int .i64 a ∧ v8 = .int .i64 (a + 20) ∧ 0 ≤ a ∧ a ≤ n ∧ I wr ∧ ∃ D R, Aside0 (Row g N (D ++ R) wr ∧ Full (ltB cf) 20 D ∧ Stb (ltB cf) xs (D ++ R) ∧ (D.length : Int) = a)) (fun v7 _ _ => (n - intOf v7).toNat)
  case atStart => exact ⟨0, rfl, rfl, by omega, by omega, hI0, [], xs, ⟨HR.out, Full.nil 20, Stb.refl _, rfl⟩⟩
  case round =>
    clear HR hI hI0
    obtain ⟨a, rfl, rfl, ha0, han, hI, D, R, HD⟩ := hrel
    by_cases hlt : a + 20 ≤ n
    · have hRl : D.length + R.length = xs.length := by have := HD.out.2.2.1.1; simp at this; omega
      have hR20 : 20 ≤ R.length := by have := HD.out.2.2.2; have := HX.out.1; omega
      obtain ⟨M, R', hMR, hM⟩ : ∃ M R', R = M ++ R' ∧ M.length = 20 := ⟨R.take 20, R.drop 20, by rw [List.take_append_drop], by simp; omega⟩
      subst hMR
      have HM := Aside0.mk (And.intro hM hRl)
      clear hRl hR20 hM
      go_wp2_with fail
      refine (insertion_calls gc fst cb cf HO.out g N c L a (a + 20) I _ _ HS.out HEG.out hI HD.out.1 D M R' rfl HD.out.2.2.2.symm (by have := HD.out.2.2.2; have := HM.out.1; omega) (by have := HM.out.2; have := HX.out; simp at *; omega) (by have := HM.out.2; have := HX.out; simp at *; omega)).mono ?_
      rintro e w3 ⟨rfl, hI3, M', hR3, hs3, hk3⟩
      have hl3 := hk3.1
      have HN := Aside0.mk (show Row g N ((D ++ M') ++ R') w3 ∧ Full (ltB cf) 20 (D ++ M') ∧ Stb (ltB cf) xs ((D ++ M') ++ R') ∧ ((D ++ M').length : Int) = a + 20 from
        ⟨by simpa using hR3, HD.out.2.1.snoc (by have := HM.out.1; omega) hs3, by
          refine HD.out.2.2.1.trans ?_
          rw [List.append_assoc]
          exact Stb.append (Stb.refl _) (Stb.append hk3 (Stb.refl _)), by have := HD.out.2.2.2; have := HM.out.1; simp; omega⟩)
      clear hR3 hs3 hk3 hl3 HD HM hI
      go_wp2
      go_roundw
      case rel => exact ⟨a + 20, rfl, rfl, by omega, by omega, hI3, D ++ M', R', HN⟩
      case measure => simp [intOf]; omega
    · go_wp2_with fail
      refine (insertion_calls gc fst cb cf HO.out g N c L a n I _ _ HS.out HEG.out hI HD.out.1 D R [] (by simp) HD.out.2.2.2.symm (by have := HD.out.2.2.1.1; have := HX.out; simp at *; omega) (by have := HD.out.2.2.1.1; have := HX.out; simp at *; omega) (by have := HD.out.2.2.1.1; have := HX.out; simp at *; omega)).mono ?_
      rintro e w3 ⟨rfl, hI3, M', hR3, hs3, hk3⟩
      have hl3 := hk3.1
      have HB := Aside0.mk (show ∃ ys, Row g N ys w3 ∧ Bk (ltB cf) 20 ys ∧ Stb (ltB cf) xs ys from ⟨D ++ M', by simpa using hR3,
        HD.out.2.1 _ (Bk.last M' hs3 (by have := HD.out.2.2; have := HX.out.1; have := HD.out.2.2.1.1; simp at this; omega)), HD.out.2.2.1.trans (Stb.append (Stb.refl _) hk3)⟩)
      clear hR3 hs3 hk3 hl3 HD hI
      go_wp2
      go_loopw [6, 7, 8, 9] (fun v6 _ _ _ wr => ∃ s : Int, v6 = .int .i64 s ∧ 20 ≤ s ∧ s ≤ 2000000000 ∧ I wr ∧ Aside0 (∃ ys, Row g N ys wr ∧ Bk (ltB cf) s.toNat ys ∧ Stb (ltB cf) xs ys)) (fun v6 _ _ _ _ => (n - intOf v6).toNat)
      case atStart => exact ⟨20, rfl, by omega, by omega, hI3, HB⟩
      case round =>
        clear HB hI3
        obtain ⟨s, rfl, hs0, hsn, hI, HB⟩ := hrel
        by_cases hsl : s < n
        · go_wp2
          go_loopw [7, 8] (fun v7 v8 wr => ∃ a : Int, v7 = .int .i64 a ∧ v8 = .int .i64 (a + 2 * s) ∧ 0 ≤ a ∧ a ≤ n ∧ I wr ∧ ∃ E R, Aside0 (Row g N (E ++ R) wr ∧ Full (ltB cf) (2 * s).toNat E ∧ Bk (ltB cf) s.toNat R ∧ Stb (ltB cf) xs (E ++ R) ∧ (E.length : Int) = a)) (fun v7 _ _ => (n - intOf v7).toNat)
          case atStart =>
            obtain ⟨ys, h1, h2, h3⟩ := HB.out
            exact ⟨0, rfl, by simp, by omega, by omega, hI, [], ys, ⟨h1, Full.nil _, h2, h3, rfl⟩⟩
          case round =>
            clear HB hI
            obtain ⟨a, rfl, rfl, ha0', han', hI, E_, R', HE⟩ := hrel
            have hlen : (E_.length : Int) + R'.length = n := by have := HE.out.2.2.2.1.1; have := HX.out; simp at *; omega
            have HLN := Aside0.mk hlen
            clear hlen
            by_cases hlt2 : a + 2 * s ≤ n
            · have h2s : 2 * s.toNat ≤ R'.length := by have := HE.out.2.2.2.2; have := HLN.out; omega
              obtain ⟨U, V, R2, hRR, hU, hV, sU, sV, hB2⟩ := HE.out.2.2.1.two h2s
              subst hRR
              have HM := Aside0.mk (And.intro hU (And.intro hV (And.intro sU (And.intro sV hB2))))
              clear hU hV sU sV hB2 h2s
              go_wp2_with fail
              refine (symMerge_calls gc fst cb cf HO.out g N c L I HS.out HEG.out _ a (a + s) (a + 2 * s) _ E_ U V R2 hI HE.out.1 (by have := HE.out.2.2.2.2; omega) (by have := HM.out.1; omega) (by have := HM.out.2.1; omega) (by have := HM.out.1; omega) (by have := HM.out.2.1; omega) HM.out.2.2.1 HM.out.2.2.2.1 (by have := HLN.out; have := HX.out; simp at *; omega) (by have := HLN.out; have := HX.out; simp at *; omega) (Nat.le_refl _)).mono ?_
              rintro e w4 ⟨rfl, hI4, M, hR4, hs4, hk4⟩
              have hl4 := hk4.1
              have HN := Aside0.mk (show Row g N ((E_ ++ M) ++ R2) w4 ∧ Full (ltB cf) (2 * s).toNat (E_ ++ M) ∧ Bk (ltB cf) s.toNat R2 ∧ Stb (ltB cf) xs ((E_ ++ M) ++ R2) ∧ ((E_ ++ M).length : Int) = a + 2 * s from
                ⟨by simpa using hR4, HE.out.2.1.snoc (by have := HM.out; simp at hl4; omega) hs4, HM.out.2.2.2.2, by
                  refine HE.out.2.2.2.1.trans ?_
                  rw [List.append_assoc, ← List.append_assoc U]
                  exact Stb.append (Stb.refl _) (Stb.append hk4 (Stb.refl _)), by have := HE.out.2.2.2.2; have := HM.out; simp at *; omega⟩)
              clear hR4 hs4 hk4 hl4 HE HM HLN hI
              go_wp2
              go_roundw
              case rel => exact ⟨a + 2 * s, rfl, by congr 1, by omega, by omega, hI4, E_ ++ M, R2, HN⟩
              case measure => simp [intOf]; omega
            · by_cases hml : a + s < n
              · have h1s : s.toNat < R'.length := by have := HE.out.2.2.2.2; have := HLN.out; omega
                obtain ⟨U, V, hRR, hU, hV, hV2, sU, sV⟩ := HE.out.2.2.1.tail h1s (by have := HE.out.2.2.2.2; have := HLN.out; omega)
                subst hRR
                have HM := Aside0.mk (And.intro hU (And.intro hV (And.intro sU (And.intro sV hV2))))
                clear hU hV sU sV hV2 h1s
                go_wp2_with fail
                refine (symMerge_calls gc fst cb cf HO.out g N c L I HS.out HEG.out _ a (a + s) n _ E_ U V [] hI (by simpa using HE.out.1) (by have := HE.out.2.2.2.2; omega) (by have := HM.out.1; omega) (by have := HM.out.1; have := HLN.out; have := HE.out.2.2.2.2; simp at *; omega) (by have := HM.out.1; omega) HM.out.2.1 HM.out.2.2.1 HM.out.2.2.2.1 (by have := HLN.out; have := HX.out; simp at *; omega) (by have := HLN.out; have := HX.out; simp at *; omega) (Nat.le_refl _)).mono ?_
                rintro e w4 ⟨rfl, hI4, M, hR4, hs4, hk4⟩
                have hl4 := hk4.1
                have HN := Aside0.mk (show ∃ ys, Row g N ys w4 ∧ Bk (ltB cf) (s * 2).toNat ys ∧ Stb (ltB cf) xs ys from
                  ⟨E_ ++ M, by simpa using hR4, by
                    rw [show (s * 2).toNat = (2 * s).toNat by omega]
                    exact HE.out.2.1 _ (Bk.last M hs4 (by have := HM.out; simp at hl4; omega)), HE.out.2.2.2.1.trans (Stb.append (Stb.refl _) hk4)⟩)
                clear hR4 hs4 hk4 hl4 HE HM HLN hI
                go_wp2
                go_roundw
                case rel => exact ⟨s * 2, rfl, by omega, by omega, hI4, HN⟩
                case measure => simp [intOf]; omega
              · have HN := Aside0.mk (show ∃ ys, Row g N ys wr ∧ Bk (ltB cf) (s * 2).toNat ys ∧ Stb (ltB cf) xs ys from
                  ⟨E_ ++ R', HE.out.1, by
                    rw [show (s * 2).toNat = (2 * s).toNat by omega]
                    have hl : R'.length ≤ s.toNat := by have := HE.out.2.2.2.2; have := HLN.out; omega
                    exact HE.out.2.1 _ (Bk.last R' (HE.out.2.2.1.small hl (by omega)) (by omega)), HE.out.2.2.2.1⟩)
                clear HE HLN
                go_wp2
                go_roundw
                case rel => exact ⟨s * 2, rfl, by omega, by omega, hI, HN⟩
                case measure => simp [intOf]; omega
        · have HF : Aside0 (Row g N (sortS (ltB cf) xs) wr) := by
            obtain ⟨ys, h1, h2, h3⟩ := HB.out
            have hl : ys.length ≤ s.toNat := by have := h3.1; have := HX.out; omega
            rw [← sortS_of HO.out (h2.small hl (by omega)) h3]
            exact ⟨h1⟩
          clear HB
          go_wp2
          go_end0
          exact ⟨rfl, hI, HF.out⟩
set_option maxHeartbeats 4000000 in
set_option maxRecDepth 100000 in
theorem sortStable_calls (gc : Nat) (fst cb : Array Value) (cf : Seg → Seg → Int) (o : SWO (ltB cf)) (g N c L : Nat) (I : World → Prop) (hS : Side Try.prog g gc fst cb cf I)
    (eg : ∀ args w, (callFunc gc args).run Try.prog w = .ok (.enter gc args) w)
    (xs : List Seg) (w : World) (hI : I w) (hR : Row g N xs w) (hm : xs.length ≤ 1000000000) (hL : L = xs.length) :
    Calls Try.prog 102 #[.slice (some ⟨g, 0, none⟩) L c, .func (.func gc) fst cb] w fun e w' => e = .returned (.tuple #[]) ∧ I w' ∧ Row g N (sortS (ltB cf) xs) w' := by
  have h := stable_calls gc fst cb cf o g N c L L I hS eg xs w hI hR hm hL rfl
  have H := Aside0.mk h
  clear h hS hR eg o hL hm
  go_enter Try.func102, Try.ntmps102
  go_wp2_with fail
  refine H.out.mono ?_
  rintro e w' ⟨rfl, h1, h2⟩
  have H2 := Aside0.mk h2
  clear h2
  go_wp2
  go_end0
  exact ⟨rfl, h1, H2.out⟩

set_option maxHeartbeats 400000 in
set_option maxRecDepth 100000 in
theorem insertion_nil (gc c : Nat) (fst cb : Array Value) (w : World) : Calls Try.prog 151 #[.slice none 0 c, .int .i64 0, .int .i64 0, .func (.func gc) fst cb] w fun e w' => e = .returned (.tuple #[]) ∧ w' = w := by
  go_enter Try.func151, Try.ntmps151
  go_wp2
  refine wp_loop_rounds 2 ?_
  rw [rounds_succ]
  go_wp2
  go_end0
  exact ⟨rfl, rfl⟩
set_option maxHeartbeats 400000 in
set_option maxRecDepth 100000 in
theorem stable_nil (gc c : Nat) (fst cb : Array Value) (w : World) : Calls Try.prog 139 #[.slice none 0 c, .int .i64 0, .func (.func gc) fst cb] w fun e w' => e = .returned (.tuple #[]) ∧ w' = w := by
  go_enter Try.func139, Try.ntmps139
  go_wp2
  refine wp_loop_rounds 2 ?_
  rw [rounds_succ]
  go_wp2_with fail
  refine (insertion_nil gc c fst cb _).mono ?_
  rintro e w' ⟨rfl, rfl⟩
  go_wp2
  refine wp_loop_rounds 2 ?_
  rw [rounds_succ]
  go_wp2
  go_end0
  exact ⟨rfl, rfl⟩
set_option maxHeartbeats 400000 in
set_option maxRecDepth 100000 in
theorem sortStable_nil (gc c : Nat) (fst cb : Array Value) (w : World) : Calls Try.prog 102 #[.slice none 0 c, .func (.func gc) fst cb] w fun e w' => e = .returned (.tuple #[]) ∧ w' = w := by
  go_enter Try.func102, Try.ntmps102
  go_wp2_with fail
  refine (stable_nil gc c fst cb _).mono ?_
  rintro e w' ⟨rfl, rfl⟩
  go_wp2
  go_end0
  exact ⟨rfl, rfl⟩

end Go.Proofs.Ytddbnncimggogaa.StSeg
end
section
/- slices.Clone of runs; rle.folded, rle.Of, rle.Box. -/
namespace Go.Proofs.Ytddbnncimggogaa.Lv
open Go.RowKit Go.Proofs.YtddbnncimggogaaW.PrintWords Go.Proofs.YtddbnncimggogaaW.PrintLast Go.Proofs.YtddbnncimggogaaW.PrintMore Go.Proofs.Ytddbnncimggogaa.Pb
attribute [local go_sem high] eqA28
theorem reps_KM {w w1 : World} {base : Nat} {ok : Nat → Prop} {xs : List Seg} {cs : List Value} (h : Reps (kSeg.K w) 3 xs cs) : Reps (kSeg.M w1 base ok) 3 xs cs :=
  h.imp_ fun p c hp => by rw [k30_open hp]; exact k30_mkM w1 base ok p
theorem reps_one3 {w : World} {xs : List Seg} {cs : List Value} (h : Reps (kSeg.K w) 3 xs cs) : ∀ u ∈ cs, u.oneCell' = true :=
  Kd.reps_one h (by omega) fun p c hp => by rw [k30_open hp]; intro u hu; simp at hu; rcases hu with rfl | rfl | rfl <;> rfl
set_option maxHeartbeats 400000 in
set_option maxRecDepth 100000 in
theorem clone_calls (A : Option Addr) (c : Nat) (xs : List Seg) (w : World) (HC : Kd.C kSeg w A xs.length xs) (hn : xs.length ≤ 1000000000) :
    Calls Try.prog 101 #[.slice A xs.length c] w fun e w' => ∃ v, e = .returned v ∧ Kd.R kSeg 30 w' w.heap.size (fun _ => True) v xs ∧ Below w.heap.size w w' := by
  cases A with
  | none =>
    have hx : xs = [] := by
      rcases Nat.eq_zero_or_pos xs.length with h | h
      · exact List.eq_nil_of_length_eq_zero h
      · obtain ⟨ad, e, _⟩ := HC.2.2 h
        cases e
    subst hx
    clear HC
    have qT : ∀ (w : World) (n c : Nat), (binOp .eql 22 (.slice none n c) (.slice none 0 0)).run Try.prog w = .ok (.bool true) w := fun w n c => Lib.run_eql_slice_nil_nil w n c Try.underlying22
    go_enter Try.func101, Try.ntmps101
    go_wp2
    go_ret
    exact ⟨_, rfl, Kd.R_nil _ _ _ _ _, Below.refl _ _⟩
  | some ad =>
    obtain ⟨inner, hr, hc⟩ := ReadsRow.inner_ HC
    have hsz : kSeg.sz = 3 := rfl
    obtain ⟨i0, hi, hzz⟩ := Option.map_eq_some_iff.1 info30
    simp only [Prod.mk.injEq] at hzz
    have HX := Aside0.mk (And.intro hr (And.intro hc (And.intro hi (And.intro hzz hn))))
    clear hr hc HC hi hzz
    have qT : ∀ (w : World) (a : Addr) (n c : Nat), (binOp .eql 22 (.slice (some a) n c) (.slice none 0 0)).run Try.prog w = .ok (.bool false) w := fun w a n c => Lib.run_eql_slice_some_nil w a n c Try.underlying22
    go_enter Try.func101, Try.ntmps101
    go_wp2_with (at_builtin; refine wpList_append_own_at _ rfl (.tmp 5) (.tmp 6) 22 rfl w.heap.size 30 i0 _ 3 24 Try.underlying22 HX.out.2.2.1 HX.out.2.2.2.1.1 HX.out.2.2.2.1.2.1 HX.out.2.2.2.1.2.2 (by rfl) (by decide) _ 0 [] rfl (World.ownsRow_made _ #[] 0 (Nat.le_refl _) (by decide) rfl) ad xs.length c inner rfl HX.out.1.1 ?hN (reps_one3 HX.out.1) (by have := HX.out.2.2.2.2; simp only [maxLen]; omega) (by have := HX.out.2.2.2.2; omega) (by simp) ?_)
    case hN => exact fun j u hu => pw_cell_below (below_alloc (Below.refl _ _) _) (HX.out.2.1 j u hu)
    intro v1 w1 hown hg _ hat
    have HO := Aside0.mk hown
    have HG := Aside0.mk hg
    clear hown hg hat
    go_wp2
    go_ret
    refine ⟨v1, rfl, ⟨fun _ _ => trivial, inner, (show w1.ownsRow w.heap.size 30 3 v1 xs.length inner from by simpa using HO.out), reps_KM HX.out.1⟩, ?_⟩
    exact Below.grown (below_alloc (Below.refl _ _) _) HG.out (by simp) (fun k hk => by simp [Value.ownBlock] at hk; omega)

theorem blk_far' {w : World} {g : Nat} {o : Obj} (h : w.heap[g]? = some o) {p : Addr} (hp : g ≠ p.block) (u : Value) : (w.setCell p u).heap[g]? = some o := (Below.heap_setCell w p u g hp).trans h
/-! rle.folded$1: a run is put behind what is there, where its value is another one. -/
def putB (x : Seg) (lm lc : Int) : Bool := !(decide (x.f1.f0 = lm) && decide (x.f1.f1 = lc))
structure OutAt (B b1 b2 g : Nat) (og : Obj) (w0 : World) (ys : List Seg) (lm lc : Int) (W : World) : Prop where
  below : Below B w0 W
  size : B ≤ W.heap.size
  c1 : W.heap[b1]? = some (.cells #[.int .i64 lm, .int .i64 lc] 28 (0, 0))
  c2 : ∃ v, W.heap[b2]? = some (.cells #[v] 22 (0, 0)) ∧ Kd.R kSeg 30 W B (fun k => k ≠ g) v ys
  row : W.heap[g]? = some og
def PutPost (B b1 b2 g : Nat) (og : Obj) (w0 : World) (ys : List Seg) (lm lc : Int) (x : Seg) (e : Ending) (w' : World) : Prop := e = .returned (.tuple #[]) ∧
  (if putB x lm lc then OutAt B b1 b2 g og w0 (ys ++ [x]) x.f1.f0 x.f1.f1 w' else OutAt B b1 b2 g og w0 ys lm lc w')
set_option maxHeartbeats 1000000 in
set_option maxRecDepth 100000 in
theorem put_calls (x : Seg) (lm lc : Int) (b1 b2 g B : Nat) (og : Obj) (ys : List Seg) (w0 w : World) (h1 : B ≤ b1) (h2 : B ≤ b2) (hg : g ≠ b1) (hg2 : g ≠ b2) (hO : OutAt B b1 b2 g og w0 ys lm lc w) (hl : ys.length ≤ 1000000000) :
    Calls Try.prog 104 #[segV x, .pointer (some ⟨b1, 0, none⟩), .pointer (some ⟨b2, 0, none⟩)] w (PutPost B b1 b2 g og w0 ys lm lc x) := by
  have hu30 := Try.underlying30
  have hu28 := Try.underlying28
  obtain ⟨hB, hBw, c1, ⟨v, c2, hv⟩, cg⟩ := hO
  have n12 : b1 ≠ b2 := blk_ne c1 c2 (by decide)
  have n13 : b1 ≠ w.heap.size := Nat.ne_of_lt (blk_lt c1)
  have n23 : b2 ≠ w.heap.size := Nat.ne_of_lt (blk_lt c2)
  have ng3 : g ≠ w.heap.size := Nat.ne_of_lt (blk_lt cg)
  have d1 := blk_alloc c1 (.cells #[.int .i64 x.f0, .int .i64 x.f1.f0, .int .i64 x.f1.f1] 30)
  have d2 := blk_alloc c2 (.cells #[.int .i64 x.f0, .int .i64 x.f1.f0, .int .i64 x.f1.f1] 30)
  have d3 := blk_new w (.cells #[.int .i64 x.f0, .int .i64 x.f1.f0, .int .i64 x.f1.f1] 30)
  have dg := blk_alloc cg (.cells #[.int .i64 x.f0, .int .i64 x.f1.f0, .int .i64 x.f1.f1] 30)
  have hv2 := Kd.R_alloc hv (.cells #[.int .i64 x.f0, .int .i64 x.f1.f0, .int .i64 x.f1.f1] 30)
  have hB2 := hB.alloc hBw (.cells #[.int .i64 x.f0, .int .i64 x.f1.f0, .int .i64 x.f1.f1] 30)
  have hs2 : B ≤ (w.alloc (.cells #[.int .i64 x.f0, .int .i64 x.f1.f0, .int .i64 x.f1.f1] 30)).heap.size := by simp; omega
  have hvlt : ∀ k, v.ownBlock = some k → k < w.heap.size := fun k hk => by obtain ⟨inner, ho⟩ := Kd.R_own hv; exact (ho.lt k hk).2
  obtain ⟨W, hW⟩ : ∃ W, W = w.alloc (.cells #[.int .i64 x.f0, .int .i64 x.f1.f0, .int .i64 x.f1.f1] 30) := ⟨_, rfl⟩
  rw [← hW] at d1 d2 d3 dg hv2 hB2 hs2
  unfold segV
  go_enter Try.func104, Try.ntmps104
  go_upto_region 1 with fail
  rw [← hW]
  clear hv c1 c2 cg hB hW
  obtain ⟨b3, hb3⟩ : ∃ b3, b3 = w.heap.size := ⟨_, rfl⟩
  rw [← hb3] at d3 n13 n23 ng3 hvlt ⊢
  have H1 := Aside0.mk d1
  have H2 := Aside0.mk d2
  have H3 := Aside0.mk d3
  have HG := Aside0.mk dg
  have HV := Aside0.mk hv2
  have HB := Aside0.mk hB2
  have HVL := Aside0.mk hvlt
  have e10 : W.cell? ⟨b1, 0, none⟩ = some (.int .i64 lm) := (blk_cell d1 0).trans rfl
  have e11 : W.cell? ⟨b1, 1, none⟩ = some (.int .i64 lc) := (blk_cell d1 1).trans rfl
  have e20 : W.cell? ⟨b2, 0, none⟩ = some v := (blk_cell d2 0).trans rfl
  have e30 : W.cell? ⟨b3, 0, none⟩ = some (.int .i64 x.f0) := (blk_cell d3 0).trans rfl
  have e31 : W.cell? ⟨b3, 1, none⟩ = some (.int .i64 x.f1.f0) := (blk_cell d3 1).trans rfl
  have e32 : W.cell? ⟨b3, 2, none⟩ = some (.int .i64 x.f1.f1) := (blk_cell d3 2).trans rfl
  clear d1 d2 d3 dg hv2 hB2 hvlt hb3
  have hfin : putB x lm lc = false → x.f1.f0 = lm ∧ x.f1.f1 = lc := by simp [putB]
  by_cases hm : x.f1.f0 = lm ∧ x.f1.f1 = lc
  · have hp : putB x lm lc = false := by simp [putB, hm]
    have HP := Aside0.mk hp
    rw [hm.1] at e31
    rw [hm.2] at e32
    clear hp
    clear hm hfin
    go_wp2
    go_end0
    refine ⟨rfl, ?_⟩
    rw [HP.out]
    exact ⟨HB.out, hs2, H1.out, ⟨v, H2.out, HV.out⟩, HG.out⟩
  · have hp : putB x lm lc = true := by cases h : putB x lm lc with | true => rfl | false => exact absurd (hfin h) hm
    have HP := Aside0.mk hp
    clear hp
    have hq : (!x.f1.f0 == lm || !x.f1.f1 == lc) = true := by
      by_cases h : x.f1.f0 = lm
      · have h' : ¬ x.f1.f1 = lc := fun h2 => hm ⟨h, h2⟩
        simp [h']
      · simp [h]
    clear hm hfin
    have m12 : ¬ b1 = b2 := n12
    have m13 : ¬ b1 = b3 := n13
    have m23 : ¬ b2 = b3 := n23
    have m21 : ¬ b2 = b1 := fun h => n12 h.symm
    have m31 : ¬ b3 = b1 := fun h => n13 h.symm
    have m32 : ¬ b3 = b2 := fun h => n23 h.symm
    clear n12 n13 n23
    go_wp2_with (at_builtin; refine Kd.R_append kSeg (w0 := w0) B rfl (.tmp 8) (.tmp 10) 22 30 _ 24 rfl Try.underlying22 info30 rfl (by decide) (by omega) v ys x [.int .i64 x.f0, .int .i64 x.f1.f0, .int .i64 x.f1.f1] (fun k => k ≠ g) (fun _ => False) rfl (by first | (go_simp; done) | (go_simp; rfl)) (k30_mkM _ _ _ x) (fun _ hk => hk.elim) (fun k hk => by have := blk_lt HG.out; omega) HV.out HB.out hs2 (by omega) ?_)
    intro v1 w1 hv1 hb1 hg1 hat
    obtain ⟨A1, ca1, rfl⟩ := Kd.R_slice hv1
    obtain ⟨n1, hn1⟩ : ∃ n1, n1 = (ys ++ [x]).length := ⟨_, rfl⟩
    rw [← hn1] at hv1 ⊢
    have hs3 : B ≤ w1.heap.size := Nat.le_trans hs2 hg1.size
    have f1 := blk_grown H1.out hg1 (Kd.R_ne HV.out H1.out (by decide))
    have f2 := blk_grown H2.out hg1 (Kd.R_ne HV.out H2.out (by decide))
    have f3 := blk_grown H3.out hg1 (fun h => by have := HVL.out b3 h.symm; omega)
    have fg := blk_grown HG.out hg1 (fun h => HV.out.1 g h.symm rfl)
    have F1 := Aside0.mk f1
    have F2 := Aside0.mk f2
    have FG := Aside0.mk fg
    have FV := Aside0.mk hv1
    have FB := Aside0.mk hb1
    have e30' : w1.cell? ⟨b3, 0, none⟩ = some (.int .i64 x.f0) := (blk_cell f3 0).trans rfl
    have e31' : w1.cell? ⟨b3, 1, none⟩ = some (.int .i64 x.f1.f0) := (blk_cell f3 1).trans rfl
    have e32' : w1.cell? ⟨b3, 2, none⟩ = some (.int .i64 x.f1.f1) := (blk_cell f3 2).trans rfl
    have e10' : w1.cell? ⟨b1, 0, none⟩ = some (.int .i64 lm) := (blk_cell f1 0).trans rfl
    have e11' : w1.cell? ⟨b1, 1, none⟩ = some (.int .i64 lc) := (blk_cell f1 1).trans rfl
    have e20' : w1.cell? ⟨b2, 0, none⟩ = some v := (blk_cell f2 0).trans rfl
    have z1 := blk_frozen f1 0
    have z2 := blk_frozen f1 1
    have z3 := blk_frozen f2 0
    clear f1 f2 f3 fg hv1 hb1 hg1 hat hn1
    go_wp2
    go_end0
    refine ⟨rfl, ?_⟩
    rw [HP.out]
    refine ⟨?_, by simpa using hs3, ?_, ⟨.slice A1 n1 ca1, ?_, ?_⟩, ?_⟩
    · exact ((FB.out.setCell h2 _).setCell h1 _).setCell h1 _
    · exact blk_put (blk_put (blk_far F1.out m12 _) 0 _ rfl) 1 _ rfl
    · exact blk_far (blk_far (blk_put F2.out 0 _ rfl) m21 _) m21 _
    · refine Kd.R_set (Kd.R_set (Kd.R_set FV.out F2.out (by decide) _ _) (blk_far F1.out m12 _) (by decide) _ _) (blk_put (blk_far F1.out m12 _) 0 _ rfl) (by decide) _ _
    · exact blk_far' (blk_far' (blk_far' FG.out hg2 _) hg _) hg _
end Go.Proofs.Ytddbnncimggogaa.Lv
end
section
/- rle.folded, rle.Of, rle.Box. -/
namespace Go.Proofs.Ytddbnncimggogaa.Lv
open Go.RowKit Go.Proofs.YtddbnncimggogaaW.PrintWords Go.Proofs.YtddbnncimggogaaW.PrintLast Go.Proofs.YtddbnncimggogaaW.PrintMore Go.Proofs.Ytddbnncimggogaa.Pb Go.Proofs.Ytddbnncimggogaa.SP Go.Proofs.Ytddbnncimggogaa.StSeg
attribute [local go_sem high] eqA28
theorem ltS (x y : Seg) : ltB cmpS x y = decide (x.f0 < y.f0) := by
  unfold ltB cmpS
  by_cases h : x.f0 < y.f0
  · simp [h]
  · by_cases h2 : y.f0 < x.f0
    · simp [h, h2]
    · simp [h, h2]
theorem swoS : SWO (ltB cmpS) where
  irr x := by simp [ltS]
  neg x y z := by simp only [ltS, decide_eq_false_iff_not]; omega
  asy x y := by simp only [ltS, decide_eq_false_iff_not, decide_eq_true_eq]; omega
theorem addr_add (g m : Nat) : (⟨g, 0, none⟩ : Addr).add m = ⟨g, m, none⟩ := by
  unfold Addr.add
  by_cases h : m = 0
  · subst h; simp
  · simp [h]
theorem OutAt.step {B b1 b2 g : Nat} {og : Obj} {w0 : World} {ys : List Seg} {lm lc : Int} {W W' : World} (h : OutAt B b1 b2 g og w0 ys lm lc W) (hb : Below W.heap.size W W') : OutAt B b1 b2 g og w0 ys lm lc W' := by
  obtain ⟨h1, h2, h3, ⟨v, h4, h5⟩, h6⟩ := h
  exact ⟨h1.trans (hb.mono h2), Nat.le_trans h2 hb.size, blk_below h3 hb, ⟨v, blk_below h4 hb, Kd.R_below h5 hb⟩, blk_below h6 hb⟩
theorem row_of_C {g N : Nat} {xs : List Seg} {w : World} {cs : Array Value} (hb : w.heap[g]? = some (.cells cs 30 (0, 0))) (hC : Kd.C kSeg w (some ⟨g, 0, none⟩) xs.length xs) (hs : cs.size = N) (hl : xs.length * 3 ≤ N) : Row g N xs w := by
  refine ⟨cs, hb, hs, hl, fun i hi => ?_⟩
  obtain ⟨ad, e, h0, h1, h2⟩ := at_T30 hC (i : Int) (by omega) (by omega)
  cases e
  rw [addr_add] at h0 h1 h2
  rw [blk_cell hb] at h0 h1 h2
  simp only [rd_T30, Int.toNat_natCast] at h0 h1 h2
  exact ⟨h0, h1, h2⟩
theorem C_of_row {g N : Nat} {xs : List Seg} {w : World} (h : Row g N xs w) (hn : xs.length ≤ 9223372036854775807) : Kd.C kSeg w (some ⟨g, 0, none⟩) xs.length xs := by
  obtain ⟨cs, hb, hs, hl, hH⟩ := h
  refine ⟨rfl, hn, fun _ => ⟨_, rfl, fun j p hj => ⟨_, rfl, k30_mk w p, fun i u hu => ?_⟩⟩⟩
  have hj' := List.getElem?_eq_some_iff.1 hj
  obtain ⟨h0, h1, h2⟩ := hH j hj'.1
  have ep : xs.getD j z30 = p := by rw [List.getD_eq_getElem?_getD, hj]; rfl
  rw [ep] at h0 h1 h2
  rw [addr_add, blk_cell hb]
  match i, hu with
  | 0, hu => simp at hu; subst hu; exact h0
  | 1, hu => simp at hu; subst hu; exact h1
  | 2, hu => simp at hu; subst hu; exact h2
  | i + 3, hu => simp at hu
/-- Is the next run at another time, or is there none. -/
def nextB (x : Seg) : List Seg → Bool
  | [] => true
  | y :: _ => !(y.f0 == x.f0)
def foldB : List Seg → List Seg → Int → Int → List Seg
  | [], ys, _, _ => ys
  | x :: l, ys, lm, lc => if nextB x l && putB x lm lc then foldB l (ys ++ [x]) x.f1.f0 x.f1.f1 else foldB l ys lm lc
def foldF (xs : List Seg) : List Seg := foldB (sortS (ltB cmpS) xs) [] 0 0
theorem drop_rd (zs : List Seg) (i : Int) (h0 : 0 ≤ i) (h : i < zs.length) : zs.drop i.toNat = rdE zs i :: zs.drop (i + 1).toNat := by
  have hl : i.toNat < zs.length := by omega
  rw [show (i + 1).toNat = i.toNat + 1 by omega, List.drop_eq_getElem_cons hl]
  simp [rdE, List.getD_eq_getElem?_getD, List.getElem?_eq_getElem hl]
theorem foldB_go (zs acc : List Seg) (lm lc i : Int) (h0 : 0 ≤ i) (h : i < zs.length) (hn : nextB (rdE zs i) (zs.drop (i + 1).toNat) = true) :
    foldB (zs.drop i.toNat) acc lm lc = if putB (rdE zs i) lm lc then foldB (zs.drop (i + 1).toNat) (acc ++ [rdE zs i]) (rdE zs i).f1.f0 (rdE zs i).f1.f1 else foldB (zs.drop (i + 1).toNat) acc lm lc := by
  rw [drop_rd zs i h0 h]; simp [foldB, hn]
theorem foldB_stay (zs acc : List Seg) (lm lc i : Int) (h0 : 0 ≤ i) (h : i < zs.length) (hn : nextB (rdE zs i) (zs.drop (i + 1).toNat) = false) :
    foldB (zs.drop i.toNat) acc lm lc = foldB (zs.drop (i + 1).toNat) acc lm lc := by
  rw [drop_rd zs i h0 h]; simp [foldB, hn]
theorem nextB_last (zs : List Seg) (x : Seg) (i : Int) (h : i + 1 = zs.length) : nextB x (zs.drop (i + 1).toNat) = true := by
  rw [List.drop_of_length_le (by omega)]; rfl
theorem nextB_more (zs : List Seg) (x : Seg) (i : Int) (h0 : 0 ≤ i) (h : i + 1 < zs.length) : nextB x (zs.drop (i + 1).toNat) = !((rdE zs (i + 1)).f0 == x.f0) := by
  rw [drop_rd zs (i + 1) (by omega) h]; rfl
theorem side_S (g : Nat) (w : World) (hg : w.heap.size ≤ g) (rv : Value) : Side Try.prog g 103 #[rv] #[] cmpS (fun W => Below w.heap.size w W ∧ g < W.heap.size) where
  cmp x y W hW := (compare_calls rv x y W).mono (by
    rintro e W' ⟨rfl, hb⟩
    exact ⟨rfl, ⟨below_step hW.1 hb, Nat.lt_of_lt_of_le hW.2 hb.size⟩, fun ob h => blk_below h hb⟩)
  set W j v hW := ⟨below_set hW.1 hg, by simpa using hW.2⟩
  drew W hW := ⟨below_drew hW.1, hW.2⟩
def FoldPost (w : World) (xs : List Seg) (e : Ending) (w' : World) : Prop := ∃ v, e = .returned v ∧ Kd.R kSeg 30 w' w.heap.size (fun _ => True) v (foldF xs) ∧ Below w.heap.size w w'
set_option maxHeartbeats 1000000 in
set_option maxRecDepth 100000 in
theorem folded_calls (A : Option Addr) (c : Nat) (xs : List Seg) (w : World) (HC : Kd.C kSeg w A xs.length xs) (hn : xs.length ≤ 1000000000) :
    Calls Try.prog 56 #[.slice A xs.length c] w (FoldPost w xs) := by
  have hu30 := Try.underlying30
  have hu28 := Try.underlying28
  have H := clone_calls A c xs w HC hn
  have HK := Aside0.mk H
  clear H HC
  have eg : ∀ args w, (callFunc 103 args).run Try.prog w = .ok (.enter 103 args) w := fun _ _ => rfl
  have eg2 : ∀ args w, (callFunc 104 args).run Try.prog w = .ok (.enter 104 args) w := fun _ _ => rfl
  go_enter Try.func56, Try.ntmps56
  go_wp2_with fail
  refine HK.out.mono ?_
  rintro e w1 ⟨v, rfl, hv, hb⟩
  have HB := Aside0.mk hb
  clear HK hb
  obtain ⟨inner, ho, hr⟩ := hv.2
  rcases ho.2 with ⟨rfl, h0⟩ | ⟨g, cap, cur, rfl, hg, hgb, hcap, hmx, hsz, htk⟩
  · have hx : xs = [] := List.eq_nil_of_length_eq_zero h0
    subst hx
    clear ho hr hv h0
    go_wp2_with fail
    refine (sortStable_nil 103 0 #[.slice none 0 0] #[] _).mono ?_
    rintro e w2 ⟨rfl, rfl⟩
    go_wp2
    refine wp_loop_rounds 2 ?_
    rw [rounds_succ]
    go_wp2
    go_ret
    refine ⟨_, rfl, Kd.R_nil _ _ _ _ _, ?_⟩
    repeat (first | exact HB.out | apply below_alloc)
  · obtain ⟨A2, c2, hsl, _, hC⟩ := Kd.R_reads hv
    cases hsl
    have hrow := row_of_C hgb hC hsz (Nat.mul_le_mul_right _ hcap)
    clear hv ho hr hC htk hsz
    have hgl : g < w1.heap.size := blk_lt hgb
    go_wp2_with fail
    refine (sortStable_calls 103 #[_] #[] cmpS swoS g (cap * 3) cap xs.length _ (side_S g w hg _) eg xs _ ⟨HB.out, hgl⟩ hrow hn rfl).mono ?_
    rintro e w2 ⟨rfl, ⟨hB2, hgl2⟩, hrow2⟩
    clear hrow hgb HB hgl
    obtain ⟨zs, hzs⟩ : ∃ zs, zs = sortS (ltB cmpS) xs := ⟨_, rfl⟩
    have hzl : zs.length = xs.length := by rw [hzs]; exact (sortS_stb swoS xs).1.symm
    rw [← hzs] at hrow2
    obtain ⟨cs, hcb, hcs, hcl, hH⟩ := hrow2
    go_upto_region 6 with fail
    have hO : OutAt w.heap.size (w2.heap.size + 1) w2.heap.size g (.cells cs 30 (0, 0)) w [] 0 0 ((w2.alloc (.cells #[.slice none 0 0] 22)).alloc (.cells #[.int .i64 0, .int .i64 0] 28)) := by
      have hB3 := hB2.size
      refine ⟨(hB2.alloc hB3 _).alloc (by simp; omega) _, by simp; omega, ?_, ⟨_, blk_alloc (blk_new w2 _) _, Kd.R_nil _ _ _ _ _⟩, blk_alloc (blk_alloc hcb _) _⟩
      have := blk_new (w2.alloc (.cells #[.slice none 0 0] 22)) (.cells #[.int .i64 0, .int .i64 0] 28)
      simpa using this
    have hg1 : g ≠ w2.heap.size + 1 := by omega
    have hg2 : g ≠ w2.heap.size := by omega
    have hw1 : w.heap.size ≤ w2.heap.size + 1 := by have := hB2.size; omega
    have hw2 : w.heap.size ≤ w2.heap.size := hB2.size
    have heg2 := eg2
    clear eg
    obtain ⟨w3, hw3⟩ : ∃ w3, w3 = ((w2.alloc (.cells #[.slice none 0 0] 22)).alloc (.cells #[.int .i64 0, .int .i64 0] 28)) := ⟨_, rfl⟩
    rw [← hw3] at hO ⊢
    obtain ⟨b5, hb5⟩ : ∃ b5, b5 = w2.heap.size + 1 := ⟨_, rfl⟩
    obtain ⟨b4, hb4⟩ : ∃ b4, b4 = w2.heap.size := ⟨_, rfl⟩
    rw [← hb5] at hO hg1 hw1 ⊢
    rw [← hb4] at hO hg2 hw2 ⊢
    have HO := Aside0.mk hO
    have HN := Aside0.mk (And.intro hg1 (And.intro hg2 (And.intro hw1 (And.intro hw2 (And.intro hcl (And.intro hH (And.intro hzl hzs)))))))
    clear hO hb5 hb4 hw3 hcb hcl hH hcs hB2 hgl2 hzs hg hg1 hg2 hw1 hw2 hcap hmx
    obtain ⟨n, hnn⟩ : ∃ n : Int, n = (xs.length : Int) := ⟨_, rfl⟩
    have HNN := Aside0.mk hnn
    have hn1 : n ≤ 1000000000 := by omega
    have hnx : (xs.length : Int) = n := hnn.symm
    clear hn hnn
    go_wp2
    go_loopw [18] (fun v18 wr => ∃ i : Int, v18 = .int .i64 i ∧ 0 ≤ i ∧ i ≤ n ∧ Aside0 (∃ acc lm lc, OutAt w.heap.size b5 b4 g (.cells cs 30 (0, 0)) w acc lm lc wr ∧ foldB (zs.drop i.toNat) acc lm lc = foldF xs ∧ (acc.length : Int) ≤ i)) (fun v18 _ => (n - intOf v18).toNat)
    case atStart => exact ⟨0, rfl, by omega, by have := HNN.out; omega, ⟨[], 0, 0, HO.out, by rw [HN.out.2.2.2.2.2.2.2]; rfl, by simp⟩⟩
    case round =>
      clear HO
      obtain ⟨i, rfl, hi0, hin, HA⟩ := hrel
      have hn0 := HNN.out
      by_cases hlt : i < n
      · obtain ⟨acc, lm, lc, hO, hF, hal⟩ := HA.out
        have hil : i < zs.length := by have := HN.out.2.2.2.2.2.2.1; omega
        obtain ⟨x0, x1, x2⟩ := holds_int HN.out.2.2.2.2.2.1 i hi0 hil
        obtain ⟨x, hx⟩ : ∃ x, x = rdE zs i := ⟨_, rfl⟩
        rw [← hx] at x0 x1 x2
        have hlt' : i < (xs.length : Int) := by omega
        have p0 := (blk_cell hO.row (i.toNat * 3)).trans x0
        have p1 := (blk_cell hO.row (i.toNat * 3 + 1)).trans x1
        have p2 := (blk_cell hO.row (i.toNat * 3 + 2)).trans x2
        have HF := Aside0.mk (And.intro hF (And.intro hal (And.intro hx hil)))
        have HO := Aside0.mk hO
        clear HA hO hF hal hx hil x0 x1 x2 hn0
        go_upto_region 9 with fail
        have hO4 := HO.out.step (below_alloc (Below.refl _ _) (.cells #[.int .i64 x.f0, .int .i64 x.f1.f0, .int .i64 x.f1.f1] 30))
        have d8 := blk_new wr (.cells #[.int .i64 x.f0, .int .i64 x.f1.f0, .int .i64 x.f1.f1] 30)
        obtain ⟨w4, hw4⟩ : ∃ w4, w4 = wr.alloc (.cells #[.int .i64 x.f0, .int .i64 x.f1.f0, .int .i64 x.f1.f1] 30) := ⟨_, rfl⟩
        obtain ⟨b8, hb8⟩ : ∃ b8, b8 = wr.heap.size := ⟨_, rfl⟩
        rw [← hw4] at hO4 d8 ⊢
        rw [← hb8] at d8 ⊢
        have e80 : w4.cell? ⟨b8, 0, none⟩ = some (.int .i64 x.f0) := (blk_cell d8 0).trans rfl
        have e81 : w4.cell? ⟨b8, 1, none⟩ = some (.int .i64 x.f1.f0) := (blk_cell d8 1).trans rfl
        have e82 : w4.cell? ⟨b8, 2, none⟩ = some (.int .i64 x.f1.f1) := (blk_cell d8 2).trans rfl
        have HO4 := Aside0.mk hO4
        have hwi : IntKind.i64.wrap (i + 1) = i + 1 := by rw [IntKind.wrap_i64]; omega
        clear HO hO4 d8 hw4 hb8 p0 p1 p2
        by_cases hla : i + 1 = n
        · have hq : ((i + 1 : Int) == n) = true := by simp [hla]
          have HLA := Aside0.mk hla
          clear hla
          go_quiet (fail)
          go_wp2_with fail
          refine (put_calls x lm lc b5 b4 g w.heap.size _ acc w _ HN.out.2.2.1 HN.out.2.2.2.1 HN.out.1 HN.out.2.1 (HO4.out.step (pw_below_drewN (Below.refl _ _) _)) (by have := HF.out.2.1; omega)).mono ?_
          rintro e w5 ⟨rfl, h5⟩
          have HR : Aside0 (∃ acc lm lc, OutAt w.heap.size b5 b4 g (.cells cs 30 (0, 0)) w acc lm lc w5 ∧ foldB (zs.drop (i + 1).toNat) acc lm lc = foldF xs ∧ (acc.length : Int) ≤ i + 1) := by
            have hx := HF.out.2.2.1
            have hgo := foldB_go zs acc lm lc i hi0 HF.out.2.2.2 (by rw [← HF.out.2.2.1]; exact nextB_last zs x i (by have := HLA.out; have := HN.out.2.2.2.2.2.2.1; have := HNN.out; omega))
            rw [HF.out.1, ← hx] at hgo
            cases hp : putB x lm lc <;> rw [hp] at h5 hgo
            · exact ⟨acc, lm, lc, h5, hgo.symm, by have := HF.out.2.1; omega⟩
            · exact ⟨_, _, _, h5, hgo.symm, by have := HF.out.2.1; simp; omega⟩
          clear h5 HF HO4
          go_wp2
          go_roundw
          case rel => exact ⟨i + 1, rfl, by omega, by omega, HR⟩
          case measure => simp [intOf]; omega
        · have hq : ((i + 1 : Int) == n) = false := by simp [hla]
          have hlt2 : i + 1 < n := by omega
          have hlt3 : i + 1 < (zs.length : Int) := by have := HN.out.2.2.2.2.2.2.1; have := HNN.out; omega
          obtain ⟨y, hy⟩ : ∃ y, y = rdE zs (i + 1) := ⟨_, rfl⟩
          obtain ⟨y0, y1, y2⟩ := holds_int HN.out.2.2.2.2.2.1 (i + 1) (by omega) hlt3
          rw [← hy] at y0
          have q0 := (blk_cell HO4.out.row ((i + 1).toNat * 3)).trans y0
          have hi1 : 0 ≤ i + 1 := by omega
          have hnb := nextB_more zs x i hi0 hlt3
          rw [← hy] at hnb
          have HNB := Aside0.mk hnb
          clear hla y0 y1 y2 hy hnb hlt3
          by_cases hyx : y.f0 = x.f0
          · have hyq : (y.f0 != x.f0) = false := by simp [hyx]
            have hnx' : nextB x (zs.drop (i + 1).toNat) = false := by rw [HNB.out, hyx]; simp
            have HNX := Aside0.mk hnx'
            clear hyx hnx'
            go_quiet (fail)
            go_wp2_with fail
            have HR : Aside0 (∃ acc lm lc, OutAt w.heap.size b5 b4 g (.cells cs 30 (0, 0)) w acc lm lc (w4.drewN nq) ∧ foldB (zs.drop (i + 1).toNat) acc lm lc = foldF xs ∧ (acc.length : Int) ≤ i + 1) := by
              have hst := foldB_stay zs acc lm lc i hi0 HF.out.2.2.2 (by rw [← HF.out.2.2.1]; exact HNX.out)
              rw [HF.out.1] at hst
              exact ⟨acc, lm, lc, HO4.out.step (pw_below_drewN (Below.refl _ _) _), hst.symm, by have := HF.out.2.1; omega⟩
            clear HF HO4
            go_roundw
            case rel => exact ⟨i + 1, rfl, by omega, by omega, HR⟩
            case measure => simp [intOf]; omega
          · have hyq : (y.f0 != x.f0) = true := by simp [hyx]
            have hnx' : nextB x (zs.drop (i + 1).toNat) = true := by rw [HNB.out]; simp [hyx]
            have HNX := Aside0.mk hnx'
            clear hyx hnx'
            go_quiet (fail)
            go_wp2_with fail
            refine (put_calls x lm lc b5 b4 g w.heap.size _ acc w _ HN.out.2.2.1 HN.out.2.2.2.1 HN.out.1 HN.out.2.1 (HO4.out.step (pw_below_drewN (Below.refl _ _) _)) (by have := HF.out.2.1; omega)).mono ?_
            rintro e w5 ⟨rfl, h5⟩
            have HR : Aside0 (∃ acc lm lc, OutAt w.heap.size b5 b4 g (.cells cs 30 (0, 0)) w acc lm lc w5 ∧ foldB (zs.drop (i + 1).toNat) acc lm lc = foldF xs ∧ (acc.length : Int) ≤ i + 1) := by
              have hx := HF.out.2.2.1
              have hgo := foldB_go zs acc lm lc i hi0 HF.out.2.2.2 (by rw [← HF.out.2.2.1]; exact HNX.out)
              rw [HF.out.1, ← hx] at hgo
              cases hp : putB x lm lc <;> rw [hp] at h5 hgo
              · exact ⟨acc, lm, lc, h5, hgo.symm, by have := HF.out.2.1; omega⟩
              · exact ⟨_, _, _, h5, hgo.symm, by have := HF.out.2.1; simp; omega⟩
            clear h5 HF HO4
            go_wp2
            go_roundw
            case rel => exact ⟨i + 1, rfl, by omega, by omega, HR⟩
            case measure => simp [intOf]; omega
      · have HR : Aside0 (∃ v, wr.heap[b4]? = some (.cells #[v] 22 (0, 0)) ∧ Kd.R kSeg 30 wr w.heap.size (fun _ => True) v (foldF xs) ∧ Below w.heap.size w wr) := by
          obtain ⟨acc, lm, lc, hO, hF, hal⟩ := HA.out
          obtain ⟨v, h1, h2⟩ := hO.c2
          rw [List.drop_of_length_le (by have := HN.out.2.2.2.2.2.2.1; omega)] at hF
          exact ⟨v, h1, by rw [← hF]; exact Kd.R_mono h2 (fun _ _ => trivial), hO.below⟩
        obtain ⟨v, h1, h2⟩ := HR.out
        have H2 := Aside0.mk h2
        have e40 : wr.cell? ⟨b4, 0, none⟩ = some v := (blk_cell h1 0).trans rfl
        clear HR HA h1 h2 hn0
        go_wp2
        go_ret
        exact ⟨v, rfl, H2.out.1, H2.out.2⟩
end Go.Proofs.Ytddbnncimggogaa.Lv
end
section
/- rle.Of, rle.Box. -/
namespace Go.Proofs.Ytddbnncimggogaa.Lv
open Go.RowKit Go.Proofs.YtddbnncimggogaaW.PrintWords Go.Proofs.YtddbnncimggogaaW.PrintLast Go.Proofs.YtddbnncimggogaaW.PrintMore Go.Proofs.Ytddbnncimggogaa.Pb Go.Proofs.Ytddbnncimggogaa.SP Go.Proofs.Ytddbnncimggogaa.StSeg
def OfPost (w : World) (xs : List Seg) (e : Ending) (w' : World) : Prop :=
  (xs.all inS = true ∧ ∃ v, e = .returned (.tuple #[v, .int .i64 0]) ∧ Kd.R kSeg 30 w' w.heap.size (fun _ => True) v (foldF xs) ∧ Below w.heap.size w w') ∨
  (xs.all inS = false ∧ e = .returned (.tuple #[.slice none 0 0, .int .i64 10]) ∧ Below w.heap.size w w')
set_option maxHeartbeats 400000 in
set_option maxRecDepth 100000 in
theorem of_calls (A : Option Addr) (c : Nat) (xs : List Seg) (w : World) (HC : Kd.C kSeg w A xs.length xs) (hn : xs.length ≤ 1000000000) :
    Calls Try.prog 16 #[.slice A xs.length c] w (OfPost w xs) := by
  have H := containsFunc_Seg 54 #[] A c xs (fun i W => Below w.heap.size w W ∧ (xs.take i).all inS = true) (fun _ W => Below w.heap.size w W ∧ xs.all inS = false) w
    (fun i W h => Kd.C_below HC h.1)
    (fun i hi W h => (of1_calls xs[i] W).mono (by
      rintro e W' ⟨rfl, hb⟩
      cases ho : inS xs[i]
      · refine .inr ⟨rfl, below_step h.1 hb, ?_⟩
        rw [Bool.eq_false_iff]
        intro h2
        rw [List.all_eq_true] at h2
        have := h2 xs[i] (List.getElem_mem hi)
        rw [ho] at this
        cases this
      · refine .inl ⟨rfl, below_step h.1 hb, ?_⟩
        rw [List.take_succ_eq_append_getElem hi, List.all_append, h.2]
        simp [ho])) (fun _ _ => rfl) ⟨Below.refl _ _, by simp⟩ (by omega)
  rw [List.take_of_length_le (Nat.le_refl _)] at H
  have H1 := Aside0.mk H
  have HF := Aside0.mk (fun W (hb : Below w.heap.size w W) => folded_calls A c xs W (Kd.C_below HC hb) hn)
  clear H HC hn
  go_enter Try.func16, Try.ntmps16
  go_wp2_with fail
  refine H1.out.mono ?_
  rintro e w1 (⟨rfl, hb, ha⟩ | ⟨i, rfl, hb, ha⟩)
  · have HB := Aside0.mk hb
    have HA := Aside0.mk ha
    clear hb ha H1
    go_wp2_with fail
    refine (HF.out _ HB.out).mono ?_
    rintro e w2 ⟨v, rfl, hv, hb2⟩
    have HV := Aside0.mk hv
    have HB2 := Aside0.mk hb2
    clear hv hb2 HF
    go_wp2
    go_ret2
    exact .inl ⟨HA.out, v, rfl, Kd.R_lower HV.out HB.out.size, below_step HB.out HB2.out⟩
  · have HB := Aside0.mk hb
    have HA := Aside0.mk ha
    clear hb ha H1 HF
    go_wp2
    go_ret2
    exact .inr ⟨HA.out, rfl, HB.out⟩
/-- The row of a box. -/
def boxL (a b m c : Int) : List Seg := [⟨a, ⟨m, c⟩⟩, ⟨b, ⟨0, 0⟩⟩]
def BoxPost (w : World) (a b m c : Int) (e : Ending) (w' : World) : Prop :=
  (a > b ∧ e = .returned (.tuple #[.slice none 0 0, .int .i64 2]) ∧ Below w.heap.size w w') ∨ (a ≤ b ∧ OfPost w (boxL a b m c) e w')
set_option maxHeartbeats 400000 in
set_option maxRecDepth 100000 in
theorem box_calls (a b m c : Int) (w : World) : Calls Try.prog 19 #[.int .i64 a, .int .i64 b, .agg #[.int .i64 m, .int .i64 c]] w (BoxPost w a b m c) := by
  have hu30 := Try.underlying30
  have hu28 := Try.underlying28
  by_cases h : a > b
  · have h' : b < a := h
    have HH := Aside0.mk h'
    go_enter Try.func19, Try.ntmps19
    go_wp2
    go_ret2
    exact .inl ⟨HH.out, rfl, below_alloc (Below.refl _ _) _⟩
  · have h' : ¬ b < a := h
    have HH := Aside0.mk h'
    clear h
    have d := blk_new w (.cells #[.int .i64 m, .int .i64 c] 28)
    have e0 := (blk_cell d 0).trans rfl
    have e1 := (blk_cell d 1).trans rfl
    clear d
    obtain ⟨W, hW⟩ : ∃ W, W = ((w.alloc (.cells #[.int .i64 m, .int .i64 c] 28)).alloc (.cells #[.int .i64 a, .int .i64 m, .int .i64 c, .int .i64 b, .int .i64 0, .int .i64 0] 30)) := ⟨_, rfl⟩
    have hb2 : Below w.heap.size w W := by rw [hW]; exact below_alloc (below_alloc (Below.refl _ _) _) _
    have hrow : Row (w.heap.size + 1) 6 (boxL a b m c) W := by
      refine ⟨#[.int .i64 a, .int .i64 m, .int .i64 c, .int .i64 b, .int .i64 0, .int .i64 0], ?_, rfl, by simp [boxL], fun i hi => ?_⟩
      · have := blk_new (w.alloc (.cells #[.int .i64 m, .int .i64 c] 28)) (.cells #[.int .i64 a, .int .i64 m, .int .i64 c, .int .i64 b, .int .i64 0, .int .i64 0] 30)
        rw [← hW] at this
        simpa using this
      · match i, hi with
        | 0, _ => exact ⟨rfl, rfl, rfl⟩
        | 1, _ => exact ⟨rfl, rfl, rfl⟩
        | i + 2, hi => simp [boxL] at hi; omega
    have H := of_calls (some ⟨w.heap.size + 1, 0, none⟩) 2 (boxL a b m c) W (C_of_row hrow (by simp [boxL])) (by simp [boxL])
    have HO := Aside0.mk H
    have HB := Aside0.mk hb2
    clear H hrow hb2
    go_enter Try.func19, Try.ntmps19
    go_wp2_with fail
    rw [← hW]
    refine (show Calls Try.prog 16 #[.slice (some ⟨w.heap.size + 1, 0, none⟩) 2 2] W (OfPost W (boxL a b m c)) from HO.out).mono ?_
    clear hW HO e0 e1
    rintro e w2 (⟨ha, v, rfl, hv, hb⟩ | ⟨ha, rfl, hb⟩)
    · have HV := Aside0.mk hv
      have HA := Aside0.mk ha
      have HB2 := Aside0.mk hb
      clear hv ha hb
      go_wp2
      go_ret2
      exact .inr ⟨by have := HH.out; omega, .inl ⟨HA.out, v, rfl, Kd.R_lower HV.out HB.out.size, below_step HB.out HB2.out⟩⟩
    · have HA := Aside0.mk ha
      have HB2 := Aside0.mk hb
      clear ha hb
      go_wp2
      go_ret2
      exact .inr ⟨by have := HH.out; omega, .inr ⟨HA.out, rfl, below_step HB.out HB2.out⟩⟩
end Go.Proofs.Ytddbnncimggogaa.Lv
end
section
/- The contracts of rle's functions, in the form of the prints. -/
namespace Go.Proofs.Ytddbnncimggogaa.Pb
open Go.RowKit Go.Proofs.YtddbnncimggogaaW.PrintWords Go.Proofs.YtddbnncimggogaaW.PrintLast Go.Proofs.YtddbnncimggogaaW.PrintMore Go.Proofs.Ytddbnncimggogaa.Lv
def rle_Of.f (l0 : List S30) : Option (List S30 × Int) := if l0.length ≤ 1000000000 then some (if l0.all inS then (foldF l0, 0) else ([], 10)) else none
theorem ofPost_own {w : World} {xs : List S30} {e : Ending} {w' : World} (h : OfPost w xs e w') {r1 : List S30} {r2 : Int} (hr : (if xs.all inS then (foldF xs, 0) else ([], 10)) = (r1, r2)) :
    ∃ v0_ : Value, e = .returned (.tuple #[v0_, .int .i64 r2]) ∧ Kd.R k30 30 w' w.heap.size (fun _ => True) v0_ r1 ∧ Below w.heap.size w w' := by
  rcases h with ⟨h, v, rfl, hv, hb⟩ | ⟨h, rfl, hb⟩
  · rw [h] at hr
    simp only [if_true, Prod.mk.injEq] at hr
    obtain ⟨rfl, rfl⟩ := hr
    exact ⟨v, rfl, hv, hb⟩
  · rw [h] at hr
    simp only [Bool.false_eq_true, if_false, Prod.mk.injEq] at hr
    obtain ⟨rfl, rfl⟩ := hr
    exact ⟨_, rfl, Kd.R_nil _ _ _ _ _, hb⟩
theorem rle_Of.calls (A0 : Option Addr) (c0 : Nat) (l0 : List S30) (r1 : List S30) (r2 : Int) (w : World) (hr0 : Kd.C k30 w A0 l0.length l0) (hc0 : l0.length ≤ c0) (h : rle_Of.f l0 = some (r1, r2)) :
    Calls Try.prog 16 #[.slice A0 l0.length c0] w fun e w' => ∃ v0_ : Value, e = .returned (.tuple #[v0_, .int .i64 r2]) ∧ Kd.R k30 30 w' w.heap.size (fun _ => True) v0_ r1 ∧ Below w.heap.size w w' := by
  unfold rle_Of.f at h
  by_cases hn : l0.length ≤ 1000000000
  · rw [if_pos hn] at h
    exact (of_calls A0 c0 l0 w hr0 hn).mono fun e w' hp => ofPost_own hp (Option.some.inj h)
  · rw [if_neg hn] at h; cases h
def rle_At.f (l0 : List S30) (a1 : Int) : Option (Int × Int) := if l0.length ≤ 1000000000 then some ((atF l0 a1).f0, (atF l0 a1).f1) else none
theorem rle_At.calls (A0 : Option Addr) (c0 : Nat) (l0 : List S30) (a1 : Int) (r1 r2 : Int) (w : World) (hr0 : Kd.C k30 w A0 l0.length l0) (hc0 : l0.length ≤ c0) (h : rle_At.f l0 a1 = some (r1, r2)) :
    Calls Try.prog 17 #[.slice A0 l0.length c0, .int .i64 a1] w fun e w' => e = .returned (.agg #[.int .i64 r1, .int .i64 r2]) ∧ Below w.heap.size w w' := by
  unfold rle_At.f at h
  by_cases hn : l0.length ≤ 1000000000
  · rw [if_pos hn] at h
    simp only [Option.some.injEq, Prod.mk.injEq] at h
    obtain ⟨rfl, rfl⟩ := h
    exact at_calls A0 c0 l0 a1 w hr0 hc0 (by omega) (by omega)
  · rw [if_neg hn] at h; cases h
def rle_May.f (l0 : List S30) : Option Bool := if l0.length ≤ 1000000000 then some (mayF l0) else none
theorem rle_May.calls (A0 : Option Addr) (c0 : Nat) (l0 : List S30) (r : Bool) (w : World) (hr0 : Kd.C k30 w A0 l0.length l0) (hc0 : l0.length ≤ c0) (h : rle_May.f l0 = some r) :
    Calls Try.prog 23 #[.slice A0 l0.length c0] w fun e w' => e = .returned (.bool r) ∧ Below w.heap.size w w' := by
  unfold rle_May.f at h
  by_cases hn : l0.length ≤ 1000000000
  · rw [if_pos hn] at h
    obtain rfl := Option.some.inj h
    exact may_calls A0 c0 l0 w hr0 (by omega)
  · rw [if_neg hn] at h; cases h
def boxF (a b m c : Int) : List S30 × Int := if a > b then ([], 2) else if (boxL a b m c).all inS then (foldF (boxL a b m c), 0) else ([], 10)
def rle_Box.f (a0 a1 a2_0 a2_1 : Int) : Option (List S30 × Int) := some (boxF a0 a1 a2_0 a2_1)
theorem rle_Box.calls (a0 a1 a2_0 a2_1 : Int) (r1 : List S30) (r2 : Int) (w : World) (h : rle_Box.f a0 a1 a2_0 a2_1 = some (r1, r2)) :
    Calls Try.prog 19 #[.int .i64 a0, .int .i64 a1, .agg #[.int .i64 a2_0, .int .i64 a2_1]] w fun e w' => ∃ v0_ : Value, e = .returned (.tuple #[v0_, .int .i64 r2]) ∧ Kd.R k30 30 w' w.heap.size (fun _ => True) v0_ r1 ∧ Below w.heap.size w w' := by
  have h' := Option.some.inj h
  unfold boxF at h'
  refine (box_calls a0 a1 a2_0 a2_1 w).mono fun e w' hp => ?_
  rcases hp with ⟨hab, rfl, hb⟩ | ⟨hab, hp⟩
  · rw [if_pos hab] at h'
    simp only [Prod.mk.injEq] at h'
    obtain ⟨rfl, rfl⟩ := h'
    exact ⟨_, rfl, Kd.R_nil _ _ _ _ _, hb⟩
  · rw [if_neg (by omega)] at h'
    exact ofPost_own hp h'
end Go.Proofs.Ytddbnncimggogaa.Pb
end
section
/- A search over a slice of legs; whether one vector is at most another. -/
namespace Go.Proofs.Ytddbnncimggogaa.Lv
open Go.RowKit Go.Proofs.YtddbnncimggogaaW.PrintWords Go.Proofs.YtddbnncimggogaaW.PrintLast Go.Proofs.YtddbnncimggogaaW.PrintMore Go.Proofs.Ytddbnncimggogaa.Pb
/-! slices.IndexFunc over runs: whatever function is handed in, by what holds between two of its calls. -/
end Go.Proofs.Ytddbnncimggogaa.Lv
end
section
namespace Go.Proofs.Ytddbnncimggogaa.Pb
open Go.RowKit Go.Proofs.YtddbnncimggogaaW.PrintWords Go.Proofs.YtddbnncimggogaaW.PrintLast Go.Proofs.YtddbnncimggogaaW.PrintMore
attribute [local go_sem] max2_int min2_int max_two min_two max_three min_three max_four min_four   -- for this text's walks alone
set_option linter.unusedVariables false
set_option linter.unusedSimpArgs false

attribute [local go_sem] pb_isSome
/-! ### slot_Length: function 81 -/
def slot_Length.l0 : Nat → List (S70) → Int → List (S70) → Int → Int → Option (Int × Int)
  | 0, _, _, _, _, _ => none
  | k + 1, x0, x4, x7, x8, x9 => if x9 < x8 then (if 0 ≤ x9 then (if x9 < (x7.length : Int) then (if ((rd_T70 x7 x9).f0) < 1 then (some (0, 2)) else (if ((rd_T70 x7 x9).f0) > 4096 then (some (0, 2)) else (slot_Length.l0 k x0 (wrap64 (x4 + ((rd_T70 x7 x9).f0))) x7 x8 (wrap64 (x9 + 1))))) else (none)) else (none)) else (if (x0.length : Int) = 0 then (some (0, 2)) else (if (x0.length : Int) > 16 then (some (0, 2)) else (some (x4, 0))))
def slot_Length.f (k : Nat) (l0 : List (S70)) : Option (Int × Int) := slot_Length.l0 k l0 0 l0 (l0.length : Int) 0
theorem slot_Length.mono_l : ∀ k, (∀ y0 y1 y2 y3 y4, LeO (slot_Length.l0 k y0 y1 y2 y3 y4) (slot_Length.l0 (k + 1) y0 y1 y2 y3 y4))
  | 0 => fun _ _ _ _ _ r h => by simp [slot_Length.l0] at h
  | k + 1 => by
    have ih0 := slot_Length.mono_l k
    · intro y0 y1 y2 y3 y4
      unfold slot_Length.l0
      repeat' first
      | (with_reducible exact ih0 _ _ _ _ _)
      | (with_reducible exact LeO.refl _)
      | (with_reducible exact LeO.none _)
      | (with_reducible refine LeO.ite ?_ ?_)
      | (with_reducible refine LeO.bind ?_ (fun _ => ?_))
      | exact ih0 _ _ _ _ _
      | exact LeO.none _
      | refine LeO.ite ?_ ?_
      | refine LeO.bind ?_ (fun _ => ?_)
theorem slot_Length.mono : ∀ a0 k, LeO (slot_Length.f k a0) (slot_Length.f (k + 1) a0) := by
  intro a0 k
  have ih0 := slot_Length.mono_l k
  unfold slot_Length.f
  repeat' first
      | (with_reducible exact ih0 _ _ _ _ _)
      | (with_reducible exact LeO.refl _)
      | (with_reducible exact LeO.none _)
      | (with_reducible refine LeO.ite ?_ ?_)
      | (with_reducible refine LeO.bind ?_ (fun _ => ?_))
      | exact ih0 _ _ _ _ _
      | exact LeO.none _
      | refine LeO.ite ?_ ?_
      | refine LeO.bind ?_ (fun _ => ?_)
set_option maxHeartbeats 8000000 in
set_option maxRecDepth 100000 in
theorem slot_Length.calls (k : Nat) (A0 : Option Addr) (c0 : Nat) (l0 : List (S70)) (r1 : Int) (r2 : Int) (w : World) (hr0 : Kd.C k70 w A0 l0.length l0) (hc0 : l0.length ≤ c0) (h : slot_Length.f k l0 = some (r1, r2)) :
    Calls Try.prog 81 #[.slice A0 l0.length c0] w fun e w' => e = .returned (.tuple #[.int .i64 r1, .int .i64 r2]) ∧ Below w.heap.size w w' := by
  have hu70 := Try.underlying70
  have HR0 := Aside0.mk hr0
  have HC0 := Aside0.mk hc0
  clear hr0 hc0
  have HB := Aside0.mk (Below.refl w.heap.size w)
  have H : (slot_Length.l0 k l0 0 l0 (l0.length : Int) 0) = some (r1, r2) := h
  clear h
  have H' := Aside0.mk H
  clear H
  go_enter Try.func81, Try.ntmps81
  go_wp2
  go_loopg [4, 9] k (fun kq v4 v9 w' => ∃ (x4_1 : Int) (x9_1 : Int), v4 = .int .i64 x4_1 ∧ v9 = .int .i64 x9_1 ∧ Aside0 (slot_Length.l0 kq l0 x4_1 l0 (l0.length : Int) x9_1 = some (r1, r2)) ∧ Aside0 (kq ≤ k) ∧ Aside0 (Below w.heap.size w w'))
  case atStart => exact ⟨(0), (0), (by first | rfl | (simp; done) | (simp [*]; done)), (by first | rfl | (simp; done) | (simp [*]; done)), H', ⟨Nat.le_refl _⟩, ⟨by repeat (first | (with_reducible first | exact HB.out | apply below_alloc | apply pw_below_drewN | apply below_drew1) | exact HB.out)⟩⟩
  case round =>
    clear H'
    obtain ⟨x4_1, x9_1, rfl, rfl, HA, HK1, HB⟩ := hrel
    cases gk with
    | zero => exact absurd HA.out (by simp [slot_Length.l0])
    | succ k1 =>
      have H := HA.out
      clear HA
      simp only [slot_Length.l0] at H
      by_cases c2 : x9_1 < (l0.length : Int)
      · rw [if_pos c2] at H
        have c2b0 : decide (x9_1 < (l0.length : Int)) = true := decide_eq_true c2
        clear c2
        by_cases c3 : 0 ≤ x9_1
        · rw [if_pos c3] at H
          have c3b0 : decide (0 ≤ x9_1) = true := decide_eq_true c3
          clear c3
          by_cases c4 : x9_1 < (l0.length : Int)
          · rw [if_pos c4] at H
            have c4b0 : decide (x9_1 < (l0.length : Int)) = true := decide_eq_true c4
            clear c4
            by_cases c5 : ((rd_T70 l0 x9_1).f0) < 1
            · rw [if_pos c5] at H
              have c5b0 : decide (((rd_T70 l0 x9_1).f0) < 1) = true := decide_eq_true c5
              clear c5
              simp only [Option.some.injEq, Prod.mk.injEq] at H
              obtain ⟨rfl, rfl⟩ := H
              have p101 : 0 ≤ (x9_1 : Int) := of_decide_eq_true (by first | (with_reducible assumption) | assumption)
              have q101 : x9_1 < (l0.length : Int) := of_decide_eq_true (by first | (with_reducible assumption) | assumption)
              obtain ⟨ad101, e101, hx101_0, hx101_1, hx101_2⟩ := at_T70 HR0.out x9_1 p101 q101
              cases e101
              replace hx101_0 := (HB.out.cell (World.block_lt_of_cell? w _ hx101_0)).trans hx101_0
              replace hx101_1 := (HB.out.cell (World.block_lt_of_cell? w _ hx101_1)).trans hx101_1
              replace hx101_2 := (HB.out.cell (World.block_lt_of_cell? w _ hx101_2)).trans hx101_2
              replace p101 := eq_true p101
              replace q101 := eq_true q101
              go_wp2_with (first | ((with_reducible refine gate_dst (N := 6) rfl ?_); (try (refine gate_guard (by rfl) ?_; dsimp only)); refine box_event ?hg (N := 6) ?hd (cs := #[.int .i64 0, .int .i64 0, .int .i64 0]) (t := 70) ?hr ?_; (case hd => rfl); (case hg => rfl); (case hr => first | (go_simp; done) | (go_simp; rfl)); intro gb102 hg w6 hbox hb; have n0_ := Aside0.mk (below_step (by repeat (first | (with_reducible first | exact HB.out | apply below_alloc | apply pw_below_drewN | apply below_drew1) | exact HB.out)) hb); have n1_ := Aside0.mk (hbox); have n2_ := Aside0.mk ((by rw [hg]; exact (below_size (by repeat (first | (with_reducible first | exact HB.out | apply below_alloc | apply pw_below_drewN | apply below_drew1) | exact HB.out))) : w.heap.size ≤ gb102)); have n3_ := Aside0.mk ((by rw [hg]; exact (below_size (by repeat (first | (with_reducible first | exact HB.out | apply below_alloc | apply pw_below_drewN | apply below_drew1) | exact HB.out))) : w.heap.size ≤ gb102)); clear HB; have HB := n0_; have BK102 := n1_; have GW102 := n2_; have GE102 := n3_; clear n0_ n1_ n2_ n3_; clear hb hbox hg; have hcz7_0 : w6.cell? ⟨gb102, 0, none⟩ = some (.int .i64 0) := (blk_cell BK102.out 0).trans rfl; have hcz7_1 : w6.cell? ⟨gb102, 1, none⟩ = some (.int .i64 0) := (blk_cell BK102.out 1).trans rfl; have hcz7_2 : w6.cell? ⟨gb102, 2, none⟩ = some (.int .i64 0) := (blk_cell BK102.out 2).trans rfl; have hfz7_0 := blk_frozen BK102.out 0; have hfz7_1 := blk_frozen BK102.out 1; have hfz7_2 := blk_frozen BK102.out 2))
              go_ret2
              exact ⟨by first | rfl | (simp [errW_none, errW_some] <;> rfl) | (simp [*, errW_none, errW_some] <;> rfl), by repeat (first | (with_reducible first | exact HB.out | apply below_alloc | apply pw_below_drewN | apply below_drew1 | refine below_set ?_ GE102.out) | exact HB.out)⟩
            · rw [if_neg c5] at H
              have c5b0 : decide (((rd_T70 l0 x9_1).f0) < 1) = false := decide_eq_false c5
              clear c5
              by_cases c8 : ((rd_T70 l0 x9_1).f0) > 4096
              · rw [if_pos c8] at H
                have c8b0 : decide (4096 < ((rd_T70 l0 x9_1).f0)) = true := decide_eq_true c8
                clear c8
                simp only [Option.some.injEq, Prod.mk.injEq] at H
                obtain ⟨rfl, rfl⟩ := H
                have p101 : 0 ≤ (x9_1 : Int) := of_decide_eq_true (by first | (with_reducible assumption) | assumption)
                have q101 : x9_1 < (l0.length : Int) := of_decide_eq_true (by first | (with_reducible assumption) | assumption)
                obtain ⟨ad101, e101, hx101_0, hx101_1, hx101_2⟩ := at_T70 HR0.out x9_1 p101 q101
                cases e101
                replace hx101_0 := (HB.out.cell (World.block_lt_of_cell? w _ hx101_0)).trans hx101_0
                replace hx101_1 := (HB.out.cell (World.block_lt_of_cell? w _ hx101_1)).trans hx101_1
                replace hx101_2 := (HB.out.cell (World.block_lt_of_cell? w _ hx101_2)).trans hx101_2
                replace p101 := eq_true p101
                replace q101 := eq_true q101
                go_wp2_with (first | ((with_reducible refine gate_dst (N := 6) rfl ?_); (try (refine gate_guard (by rfl) ?_; dsimp only)); refine box_event ?hg (N := 6) ?hd (cs := #[.int .i64 0, .int .i64 0, .int .i64 0]) (t := 70) ?hr ?_; (case hd => rfl); (case hg => rfl); (case hr => first | (go_simp; done) | (go_simp; rfl)); intro gb102 hg w9 hbox hb; have n0_ := Aside0.mk (below_step (by repeat (first | (with_reducible first | exact HB.out | apply below_alloc | apply pw_below_drewN | apply below_drew1) | exact HB.out)) hb); have n1_ := Aside0.mk (hbox); have n2_ := Aside0.mk ((by rw [hg]; exact (below_size (by repeat (first | (with_reducible first | exact HB.out | apply below_alloc | apply pw_below_drewN | apply below_drew1) | exact HB.out))) : w.heap.size ≤ gb102)); have n3_ := Aside0.mk ((by rw [hg]; exact (below_size (by repeat (first | (with_reducible first | exact HB.out | apply below_alloc | apply pw_below_drewN | apply below_drew1) | exact HB.out))) : w.heap.size ≤ gb102)); clear HB; have HB := n0_; have BK102 := n1_; have GW102 := n2_; have GE102 := n3_; clear n0_ n1_ n2_ n3_; clear hb hbox hg; have hcz10_0 : w9.cell? ⟨gb102, 0, none⟩ = some (.int .i64 0) := (blk_cell BK102.out 0).trans rfl; have hcz10_1 : w9.cell? ⟨gb102, 1, none⟩ = some (.int .i64 0) := (blk_cell BK102.out 1).trans rfl; have hcz10_2 : w9.cell? ⟨gb102, 2, none⟩ = some (.int .i64 0) := (blk_cell BK102.out 2).trans rfl; have hfz10_0 := blk_frozen BK102.out 0; have hfz10_1 := blk_frozen BK102.out 1; have hfz10_2 := blk_frozen BK102.out 2))
                go_ret2
                exact ⟨by first | rfl | (simp [errW_none, errW_some] <;> rfl) | (simp [*, errW_none, errW_some] <;> rfl), by repeat (first | (with_reducible first | exact HB.out | apply below_alloc | apply pw_below_drewN | apply below_drew1 | refine below_set ?_ GE102.out) | exact HB.out)⟩
              · rw [if_neg c8] at H
                have c8b0 : decide (4096 < ((rd_T70 l0 x9_1).f0)) = false := decide_eq_false c8
                clear c8
                have H' := Aside0.mk H
                clear H
                have p101 : 0 ≤ (x9_1 : Int) := of_decide_eq_true (by first | (with_reducible assumption) | assumption)
                have q101 : x9_1 < (l0.length : Int) := of_decide_eq_true (by first | (with_reducible assumption) | assumption)
                obtain ⟨ad101, e101, hx101_0, hx101_1, hx101_2⟩ := at_T70 HR0.out x9_1 p101 q101
                cases e101
                replace hx101_0 := (HB.out.cell (World.block_lt_of_cell? w _ hx101_0)).trans hx101_0
                replace hx101_1 := (HB.out.cell (World.block_lt_of_cell? w _ hx101_1)).trans hx101_1
                replace hx101_2 := (HB.out.cell (World.block_lt_of_cell? w _ hx101_2)).trans hx101_2
                replace p101 := eq_true p101
                replace q101 := eq_true q101
                go_wp2_with (first | ((with_reducible refine gate_dst (N := 6) rfl ?_); (try (refine gate_guard (by rfl) ?_; dsimp only)); refine box_event ?hg (N := 6) ?hd (cs := #[.int .i64 0, .int .i64 0, .int .i64 0]) (t := 70) ?hr ?_; (case hd => rfl); (case hg => rfl); (case hr => first | (go_simp; done) | (go_simp; rfl)); intro gb102 hg w11 hbox hb; have n0_ := Aside0.mk (below_step (by repeat (first | (with_reducible first | exact HB.out | apply below_alloc | apply pw_below_drewN | apply below_drew1) | exact HB.out)) hb); have n1_ := Aside0.mk (hbox); have n2_ := Aside0.mk ((by rw [hg]; exact (below_size (by repeat (first | (with_reducible first | exact HB.out | apply below_alloc | apply pw_below_drewN | apply below_drew1) | exact HB.out))) : w.heap.size ≤ gb102)); have n3_ := Aside0.mk ((by rw [hg]; exact (below_size (by repeat (first | (with_reducible first | exact HB.out | apply below_alloc | apply pw_below_drewN | apply below_drew1) | exact HB.out))) : w.heap.size ≤ gb102)); clear HB; have HB := n0_; have BK102 := n1_; have GW102 := n2_; have GE102 := n3_; clear n0_ n1_ n2_ n3_; clear hb hbox hg; have hcz12_0 : w11.cell? ⟨gb102, 0, none⟩ = some (.int .i64 0) := (blk_cell BK102.out 0).trans rfl; have hcz12_1 : w11.cell? ⟨gb102, 1, none⟩ = some (.int .i64 0) := (blk_cell BK102.out 1).trans rfl; have hcz12_2 : w11.cell? ⟨gb102, 2, none⟩ = some (.int .i64 0) := (blk_cell BK102.out 2).trans rfl; have hfz12_0 := blk_frozen BK102.out 0; have hfz12_1 := blk_frozen BK102.out 1; have hfz12_2 := blk_frozen BK102.out 2))
                go_roundg k1
                case measure => have := HK1.out; omega
                case rel => exact ⟨(wrap64 (x4_1 + ((rd_T70 l0 x9_1).f0))), (wrap64 (x9_1 + 1)), (by first | rfl | (simp; done) | (simp [*]; done)), (by first | rfl | (simp; done) | (simp [*]; done)), H', ⟨by have := HK1.out; omega⟩, ⟨by repeat (first | (with_reducible first | exact HB.out | apply below_alloc | apply pw_below_drewN | apply below_drew1 | refine below_set ?_ GE102.out) | exact HB.out)⟩⟩
          · rw [if_neg c4] at H
            exact absurd H (by simp)
        · rw [if_neg c3] at H
          exact absurd H (by simp)
      · rw [if_neg c2] at H
        have c2b0 : decide (x9_1 < (l0.length : Int)) = false := decide_eq_false c2
        clear c2
        by_cases c13 : (l0.length : Int) = 0
        · rw [if_pos c13] at H
          have c13b0 : ((l0.length : Int) == 0) = true := beq_iff_eq.mpr c13
          have c13b1 : ((l0.length : Int) != 0) = false := bne_eq_false_iff_eq.mpr c13
          clear c13
          simp only [Option.some.injEq, Prod.mk.injEq] at H
          obtain ⟨rfl, rfl⟩ := H
          go_wp2
          go_ret2
          exact ⟨by first | rfl | (simp [errW_none, errW_some] <;> rfl) | (simp [*, errW_none, errW_some] <;> rfl), by repeat (first | (with_reducible first | exact HB.out | apply below_alloc | apply pw_below_drewN | apply below_drew1) | exact HB.out)⟩
        · rw [if_neg c13] at H
          have c13b0 : ((l0.length : Int) == 0) = false := beq_eq_false_iff_ne.mpr c13
          have c13b1 : ((l0.length : Int) != 0) = true := bne_iff_ne.mpr c13
          have c13b2 : ¬ (l0 = []) := fun h_ => c13 (by rw [h_]; rfl)
          by_cases c14 : (l0.length : Int) > 16
          · rw [if_pos c14] at H
            have c14b0 : decide (16 < (l0.length : Int)) = true := decide_eq_true c14
            have c14b1 : decide (16 < l0.length) = true := decide_eq_true (by omega)
            clear c14
            simp only [Option.some.injEq, Prod.mk.injEq] at H
            obtain ⟨rfl, rfl⟩ := H
            go_wp2
            go_ret2
            exact ⟨by first | rfl | (simp [errW_none, errW_some] <;> rfl) | (simp [*, errW_none, errW_some] <;> rfl), by repeat (first | (with_reducible first | exact HB.out | apply below_alloc | apply pw_below_drewN | apply below_drew1) | exact HB.out)⟩
          · rw [if_neg c14] at H
            have c14b0 : decide (16 < (l0.length : Int)) = false := decide_eq_false c14
            have c14b1 : decide (16 < l0.length) = false := decide_eq_false (by omega)
            clear c14
            simp only [Option.some.injEq, Prod.mk.injEq] at H
            obtain ⟨rfl, rfl⟩ := H
            go_wp2
            go_ret2
            exact ⟨by first | rfl | (simp [errW_none, errW_some] <;> rfl) | (simp [*, errW_none, errW_some] <;> rfl), by repeat (first | (with_reducible first | exact HB.out | apply below_alloc | apply pw_below_drewN | apply below_drew1) | exact HB.out)⟩

end Go.Proofs.Ytddbnncimggogaa.Pb
end
section
namespace Go.Proofs.Ytddbnncimggogaa.Pb
open Go.RowKit Go.Proofs.YtddbnncimggogaaW.PrintWords Go.Proofs.YtddbnncimggogaaW.PrintLast Go.Proofs.YtddbnncimggogaaW.PrintMore
attribute [local go_sem] max2_int min2_int max_two min_two max_three min_three max_four min_four   -- for this text's walks alone
set_option linter.unusedVariables false
set_option linter.unusedSimpArgs false

attribute [local go_sem] pb_isSome
/-! ### slot_far: function 126 -/
def slot_far.f (a0 : Int) : Option (Bool) := if a0 < (-1099511627776) then (some true) else (some (decide (a0 > 1099511627776)))
set_option maxHeartbeats 8000000 in
set_option maxRecDepth 100000 in
theorem slot_far.calls (a0 : Int) (r : Bool) (w : World) (h : slot_far.f a0 = some r) :
    Calls Try.prog 126 #[.int .i64 a0] w fun e w' => e = .returned (.bool r) ∧ Drawn0 w w' := by
  have H : (if a0 < (-1099511627776) then (some true) else (some (decide (a0 > 1099511627776)))) = some r := h
  clear h
  by_cases c2 : a0 < (-1099511627776)
  · rw [if_pos c2] at H
    have c2b0 : decide (a0 < (-1099511627776)) = true := decide_eq_true c2
    clear c2
    obtain rfl := Option.some.inj H
    go_enter Try.func126, Try.ntmps126
    go_wp2
    go_ret
    exact ⟨by first | rfl | (simp; done) | (simp [*]; done), by repeat (first | exact Drawn0.refl _ | apply Drawn0.step)⟩
  · rw [if_neg c2] at H
    have c2b0 : decide (a0 < (-1099511627776)) = false := decide_eq_false c2
    clear c2
    obtain rfl := Option.some.inj H
    go_enter Try.func126, Try.ntmps126
    go_wp2
    go_ret
    exact ⟨by first | rfl | (simp; done) | (simp [*]; done), by repeat (first | exact Drawn0.refl _ | apply Drawn0.step)⟩

end Go.Proofs.Ytddbnncimggogaa.Pb
end
section
/- slot.Length and slot.check: what stands against asking. -/
namespace Go.Proofs.Ytddbnncimggogaa.Lv
open Go.RowKit Go.Proofs.YtddbnncimggogaaW.PrintWords Go.Proofs.YtddbnncimggogaaW.PrintLast Go.Proofs.YtddbnncimggogaaW.PrintMore Go.Proofs.Ytddbnncimggogaa.Pb
end Go.Proofs.Ytddbnncimggogaa.Lv
end
section
/- append onto an empty cut of another's row ('l[:0:0]'); slot.without. -/
namespace Go.Proofs.Ytddbnncimggogaa.Lv
open Go.RowKit Go.Proofs.YtddbnncimggogaaW.PrintWords Go.Proofs.YtddbnncimggogaaW.PrintLast Go.Proofs.YtddbnncimggogaaW.PrintMore Go.Proofs.Ytddbnncimggogaa.Pb
section
variable {P : Program} {w : World}
/-- A row of the call's own, or an empty cut of another's. -/
def OwnE (w : World) (base : Nat) (e : TypeId) (size : Nat) (v : Value) (n : Nat) (xs : List Value) : Prop :=
  w.ownsRow base e size v n xs ∨ (n = 0 ∧ xs = [] ∧ ∃ b : Addr, v = .slice (some b) 0 0)
theorem run_append_void (base : Nat) (t ty e : TypeId) (i : TypeInfo) (z : Value) (size bytes : Nat) (ht : P.underlying t = some (.slice e)) (hi : P.info? e = some i) (hz : i.zero = some z)
    (hsize : i.size = size) (hby : i.bytes = bytes) (hzs : z.cells.size = size) (b a : Addr) (m c : Nat) (news : List Value) (hl : news.length = m * size) (hnews : ∀ j u, news[j]? = some u → w.cell? (a.add j) = some u)
    (hm : 0 < m) (h63 : m ≤ maxLen) (hbytes : m * bytes ≤ 140737488355328) (hbase : base ≤ w.heap.size) :
    ∃ v' w', (Builtin.append_ #[t, t] ty #[.slice (some b) 0 0, .slice (some a) m c]).run P w = .ok v' w' ∧ w'.ownsRow base e size v' m news ∧ w.grownBy w' none := by
  subst hsize
  subst hby
  have hr := run_append_grow (P := P) w t ty e i z ht hi hz b 0 0 [] (by simp) (fun j u h => by simp at h) a m c news hl hnews (by omega) (by simp only [maxLen] at h63; omega) (growslice_fits (by omega) (by simpa using hbytes))
  have hge := grownCap_ge w (0 + m) 0 e
  have hcm : grownCap w (0 + m) 0 e ≤ maxLen := grownCap_le_maxLen w (0 + m) 0 e (by omega)
  simp only [Nat.zero_add] at hr hge hcm
  refine ⟨_, _, hr, ⟨hl, .inr ⟨w.heap.size, _, _, rfl, hbase, heap_alloc_new w.drew _, hge, hcm, ?_, ?_⟩⟩, ⟨rfl, rfl, rfl, by simp, fun k hk _ => (Below.heap_alloc w.drew _ k hk)⟩⟩
  · simp only [Array.size_append, List.size_toArray, size_zeroCells, hzs, hl, List.length_nil, Nat.zero_add, ← Nat.add_mul]
    congr 1
    omega
  · simp only [Array.toList_append, List.append_assoc, List.nil_append]
    rw [← hl]
    exact List.take_left
end
end Go.Proofs.Ytddbnncimggogaa.Lv
end
section
/- append of any cut onto a row of the call's own, or onto an empty cut; the row that is made so, read. -/
namespace Go.Proofs.Ytddbnncimggogaa.Lv
open Go.RowKit Go.Proofs.YtddbnncimggogaaW.PrintWords Go.Proofs.YtddbnncimggogaaW.PrintLast Go.Proofs.YtddbnncimggogaaW.PrintMore Go.Proofs.Ytddbnncimggogaa.Pb
section
variable {P : Program} {w : World}
theorem run_append_E (base : Nat) (t ty e : TypeId) (i : TypeInfo) (z : Value) (size bytes : Nat) (ht : P.underlying t = some (.slice e)) (hi : P.info? e = some i) (hz : i.zero = some z)
    (hsize : i.size = size) (hby : i.bytes = bytes) (hzs : z.cells.size = size) (hsz : 0 < size) (v : Value) (n : Nat) (xs : List Value) (hown : OwnE w base e size v n xs)
    (A : Option Addr) (m c : Nat) (news : List Value) (hl : news.length = m * size) (hA : 0 < m → ∃ ad, A = some ad ∧ ∀ j u, news[j]? = some u → w.cell? (ad.add j) = some u) (h1 : ∀ u ∈ news, u.oneCell' = true)
    (h63 : n + m ≤ maxLen) (hbytes : (n + m) * bytes ≤ 140737488355328) (hbase : base ≤ w.heap.size) :
    ∃ v' w', (Builtin.append_ #[t, t] ty #[v, .slice A m c]).run P w = .ok v' w' ∧ OwnE w' base e size v' (n + m) (xs ++ news) ∧ (∀ w0, Below base w0 w → Below base w0 w') ∧
      (∀ (k : Nat) ob, w.heap[k]? = some ob → v.ownBlock ≠ some k → w'.heap[k]? = some ob) ∧ w.heap.size ≤ w'.heap.size := by
  rcases Nat.eq_zero_or_pos m with rfl | hm
  · have hn0 : news = [] := List.eq_nil_of_length_eq_zero (by omega)
    subst hn0
    have hs : Src P i.size t (.slice A 0 c) 0 [] w := by
      cases A with
      | none => exact Src.ofNil w ht c
      | some ad => exact Src.ofSlice w ht ad 0 c [] (by simp) (fun j u h => by simp at h) (fun u h => by cases h)
    have key : ∃ b cap, v = .slice b n cap ∧ n ≤ cap := by
      rcases hown with h | ⟨rfl, _, b, rfl⟩
      · rcases h.2 with ⟨rfl, rfl⟩ | ⟨g, cap, cur, rfl, _, _, hc, _⟩
        · exact ⟨_, _, rfl, Nat.le_refl _⟩
        · exact ⟨_, _, rfl, hc⟩
      · exact ⟨_, _, rfl, Nat.le_refl _⟩
    obtain ⟨b, cap, rfl, hle⟩ := key
    exact ⟨_, w, run_append_nothing w t t ty e i ht hi b n cap hle _ hs, by simpa using hown, fun _ h => h, fun _ _ h _ => h, Nat.le_refl _⟩
  · obtain ⟨ad, rfl, hnews⟩ := hA hm
    rcases hown with hown | ⟨rfl, rfl, b, rfl⟩
    · obtain ⟨v', w', hr, h2, hg, _, _⟩ := run_append_own_at (P := P) w base t ty e i z size bytes ht hi hz hsize hby hzs hsz v n xs hown ad m c news hl hnews h1 h63 hbytes hbase
      exact ⟨v', w', hr, .inl h2, fun w0 hB => hB.grown hg hbase (own_base hown), fun k ob hk hne => blk_grown hk hg (Ne.symm hne), hg.size⟩
    · obtain ⟨v', w', hr, h2, hg⟩ := run_append_void (P := P) (w := w) base t ty e i z size bytes ht hi hz hsize hby hzs b ad m c news hl hnews hm (by omega) (by simpa using hbytes) hbase
      exact ⟨v', w', hr, .inl (by simpa using h2), fun w0 hB => hB.grown hg hbase (fun k hk => by cases hk), fun k ob hk _ => blk_grown hk hg (by simp), hg.size⟩
/-- As a step of a region that draws its order. -/
theorem step_append_E {ops : Array Oper} {o : Oper} {a : Act} {K : Act → World → Prop} {Q : Exit → Act → World → Prop} {E : Prop}
    (hgd : o.guard = none) (s x : Operand) (t : TypeId) (hop : o.op = Op.call { callee := Callee.builtin Builtin.append, args := #[s, x], argTypes := #[t, t] })
    (base : Nat) (e : TypeId) (i : TypeInfo) (z : Value) (size bytes : Nat) (ht : P.underlying t = some (.slice e)) (hi : P.info? e = some i) (hz : i.zero = some z)
    (hsize : i.size = size) (hby : i.bytes = bytes) (hzs : z.cells.size = size) (hsz : 0 < size) (v : Value) (n : Nat) (xs : List Value) (hs : a.eval s = v) (hown : OwnE w base e size v n xs)
    (A : Option Addr) (m c : Nat) (news : List Value) (hx : a.eval x = .slice A m c) (hl : news.length = m * size) (hA : 0 < m → ∃ ad, A = some ad ∧ ∀ j u, news[j]? = some u → w.cell? (ad.add j) = some u) (h1 : ∀ u ∈ news, u.oneCell' = true)
    (h63 : n + m ≤ maxLen) (hbytes : (n + m) * bytes ≤ 140737488355328) (hbase : base ≤ w.heap.size)
    (hK : ∀ v' w', OwnE w' base e size v' (n + m) (xs ++ news) → (∀ w0, Below base w0 w → Below base w0 w') →
      (∀ (k : Nat) ob, w.heap[k]? = some ob → v.ownBlock ≠ some k → w'.heap[k]? = some ob) → w.heap.size ≤ w'.heap.size → K (a.put o.dst v') w') :
    if Region.wanted o (yielded ops a.tmps) = true then Oper.wp P o a w K Q else E := by
  have hw : Region.wanted o (yielded ops a.tmps) = true := by simp [Region.wanted, hgd]
  rw [if_pos hw]
  obtain ⟨v', w', hr, h2, h3, h4, h5⟩ := run_append_E (P := P) (w := w) base t o.type e i z size bytes ht hi hz hsize hby hzs hsz v n xs hown A m c news hl hA h1 h63 hbytes hbase
  unfold Oper.wp
  simp [execOp, hop, resolve, invoke, builtin, hs, hx, hr, Result.andThen]
  exact hK v' w' h2 h3 h4 h5
/-- What an owned row holds, read. -/
theorem OwnE.cells {base : Nat} {e : TypeId} {size : Nat} {v : Value} {n : Nat} {xs : List Value} (h : OwnE w base e size v n xs) :
    ∃ A c, v = .slice A n c ∧ n ≤ c ∧ (0 < n → ∃ ad, A = some ad ∧ base ≤ ad.block ∧ ∀ j u, xs[j]? = some u → w.cell? (ad.add j) = some u) := by
  rcases h with h | ⟨rfl, rfl, b, rfl⟩
  · rcases h.2 with ⟨rfl, rfl⟩ | ⟨g, cap, cur, rfl, hb, hh, hc, hm, hs, ht⟩
    · exact ⟨_, _, rfl, Nat.le_refl _, fun h => absurd h (by decide)⟩
    · refine ⟨_, _, rfl, hc, fun _ => ⟨_, rfl, hb, fun j u hu => ?_⟩⟩
      exact h.cells (g := g) rfl j u hu
  · exact ⟨_, _, rfl, Nat.le_refl _, fun h => absurd h (by decide)⟩
theorem OwnE.below {base : Nat} {e : TypeId} {size : Nat} {v : Value} {n : Nat} {xs : List Value} {W W' : World} (h : OwnE W base e size v n xs) (hb : Below W.heap.size W W') : OwnE W' base e size v n xs := by
  rcases h with h | h
  · exact .inl (own_move h (fun k hk => hb.block k (h.lt k hk).2))
  · exact .inr h
end
end Go.Proofs.Ytddbnncimggogaa.Lv
end
