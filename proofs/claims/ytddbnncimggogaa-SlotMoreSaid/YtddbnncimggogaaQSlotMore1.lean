/- Texts of this claim, joined: VB, VO, VR, VA, VC, VE, VD, VF, VG, VH, VI, VJ, VL, VM, VN, VK, VP, VQ, VS. -/
import Derived.RangeFuncNested
import Derived.RangeFuncLeaves
import Derived.OrdersIn
import Derived.Below
import Derived.KernelRfl
import Derived.Deep.MidRow
import Derived.Deep.AppendSrc
import Derived.Deep.Upon
import Derived.Great.BuildSlice
import Derived.Great.FillDense
import Derived.Laws.Tables
import Derived.Laws.Cover3
import Derived.ScopeJumps
section
set_option linter.unusedSimpArgs false
set_option linter.unusedVariables false
/- Values with rows taken in, and what of memory they stand for. -/
namespace Go.Proofs.Ytddbnncimggogaa.V
open Go Go.RowKit
/-- The right to append behind a row: its block; where it ends; where the block's room ends. -/
structure Tk where
  b : Nat
  fr : Nat
  en : Nat
  sz : Nat
  deriving DecidableEq, Repr, Inhabited
inductive Tok where
  | no | full | own (t : Tk)
  deriving DecidableEq, Repr, Inhabited
inductive AV where
  | undef
  | no
  | int (k : IntKind) (n : Int)
  | bool (b : Bool)
  | str (s : ByteArray)
  | nilp
  | ptr (b off : Nat)
  | iptr (x : AV) (off : Nat)
  | sl (xs : List AV) (t : Tok)
  | osl (b n c : Nat)
  | clo (f : Nat) (first cap : List AV)
  | yld (l : Nat)
  | nilf
  | agg (cs : List AV)
  | tup (vs : List AV)
  | mp (b : Nat)
  | nilm
  deriving Inhabited
def AV.cells : AV → List AV
  | .agg cs => cs
  | .undef => []
  | .no => []
  | v => [v]
/-- What is known of memory that is never written again. -/
abbrev Im := Nat → Nat → Option Value
def Im.le (I J : Im) : Prop := ∀ b o v, I b o = some v → J b o = some v
theorem Im.le.refl (I : Im) : I.le I := fun _ _ _ h => h
theorem Im.le.trans {I J K : Im} (h : I.le J) (k : J.le K) : I.le K := fun b o v e => k b o v (h b o v e)
def tokOk (t : Tok) (a : Option Addr) (sz n c : Nat) : Prop :=
  match t with
  | .no => True
  | .full => c = n
  | .own k => k.sz = sz ∧ ∃ o, a = some ⟨k.b, o, none⟩ ∧ k.fr = o + n * sz ∧ k.en = o + c * sz
def Row (I : Im) (b o : Nat) (v : Value) : Prop := ∀ j u, v.cells[j]? = some u → I b (o + j) = some u
mutual
def Rep (I : Im) : AV → Value → Prop
  | .undef, _ => True
  | .no, v => v = Go.undef
  | .int k n, v => v = .int k n
  | .bool b, v => v = .bool b
  | .str s, v => v = .string s
  | .nilp, v => v = .pointer none
  | .ptr b off, v => v = .pointer (some ⟨b, off, none⟩)
  | .iptr x off, v => ∃ b o u, v = .pointer (some ⟨b, o + off, none⟩) ∧ Rep I x u ∧ Row I b o u
  | .sl xs t, v => ∃ a c sz, v = .slice a xs.length c ∧ xs.length ≤ c ∧ 0 < sz ∧ (xs = [] ∨ ∃ b o, a = some ⟨b, o, none⟩ ∧ RepR I sz xs b o) ∧ (a = none → c = 0) ∧ True ∧ tokOk t a sz xs.length c
  | .osl b n c, v => v = .slice (some ⟨b, 0, none⟩) n c ∧ n ≤ c
  | .clo f fs cs, v => ∃ us vs, v = .func (.func f) us vs ∧ RepL I fs us.toList ∧ RepL I cs vs.toList
  | .yld l, v => v = .func (.yield l) #[] #[]
  | .nilf, v => v = .nilFunc
  | .agg cs, v => ∃ vs, v = .agg vs ∧ RepL I cs vs.toList
  | .tup cs, v => ∃ vs, v = .tuple vs ∧ RepL I cs vs.toList
  | .mp b, v => v = .map (some b)
  | .nilm, v => v = .map none
def RepL (I : Im) : List AV → List Value → Prop
  | [], [] => True
  | a :: aas, v :: vs => Rep I a v ∧ RepL I aas vs
  | _, _ => False
def RepR (I : Im) (sz : Nat) : List AV → Nat → Nat → Prop
  | [], _, _ => True
  | x :: xs, b, o => (∃ u, Rep I x u ∧ u.cells.size = sz ∧ Row I b o u) ∧ RepR I sz xs b (o + sz)
end
theorem Row.mono {I J : Im} (h : I.le J) {b o v} (r : Row I b o v) : Row J b o v := fun j u hu => h _ _ _ (r j u hu)
mutual
theorem Rep.mono {I J : Im} (h : I.le J) : ∀ (a : AV) (v : Value), Rep I a v → Rep J a v
  | .undef, _, _ => trivial
  | .no, _, r => r
  | .int _ _, _, r => r
  | .bool _, _, r => r
  | .str _, _, r => r
  | .nilp, _, r => r
  | .ptr _ _, _, r => r
  | .iptr x off, v, r => by
    simp only [Rep] at r ⊢
    obtain ⟨b, o, u, e, hx, hr⟩ := r
    exact ⟨b, o, u, e, Rep.mono h x u hx, hr.mono h⟩
  | .sl xs t, v, r => by
    simp only [Rep] at r ⊢
    obtain ⟨a, c, sz, e, h1, h2, h3, h4⟩ := r
    exact ⟨a, c, sz, e, h1, h2, h3.imp id (fun ⟨b, o, e', hr⟩ => ⟨b, o, e', RepR.mono h sz xs b o hr⟩), h4⟩
  | .osl _ _ _, _, r => by
    simp only [Rep] at r ⊢
    exact r
  | .clo f fs cs, v, r => by
    simp only [Rep] at r ⊢
    obtain ⟨us, vs, e, h1, h2⟩ := r
    exact ⟨us, vs, e, RepL.mono h fs _ h1, RepL.mono h cs _ h2⟩
  | .yld _, _, r => r
  | .nilf, _, r => r
  | .agg cs, v, r => by
    simp only [Rep] at r ⊢
    obtain ⟨vs, e, h1⟩ := r
    exact ⟨vs, e, RepL.mono h cs _ h1⟩
  | .tup cs, v, r => by
    simp only [Rep] at r ⊢
    obtain ⟨vs, e, h1⟩ := r
    exact ⟨vs, e, RepL.mono h cs _ h1⟩
  | .mp _, _, r => r
  | .nilm, _, r => r
theorem RepL.mono {I J : Im} (h : I.le J) : ∀ (aas : List AV) (vs : List Value), RepL I aas vs → RepL J aas vs
  | [], [], _ => trivial
  | a :: aas, v :: vs, r => ⟨Rep.mono h a v r.1, RepL.mono h aas vs r.2⟩
  | [], _ :: _, r => r.elim
  | _ :: _, [], r => r.elim
theorem RepR.mono {I J : Im} (h : I.le J) (sz : Nat) : ∀ (xs : List AV) (b o : Nat), RepR I sz xs b o → RepR J sz xs b o
  | [], _, _, _ => trivial
  | x :: xs, b, o, r => by
    simp only [RepR] at r ⊢
    obtain ⟨⟨u, h1, h2, h3⟩, h4⟩ := r
    exact ⟨⟨u, Rep.mono h x u h1, h2, h3.mono h⟩, RepR.mono h sz xs b (o + sz) h4⟩
end
theorem RepL.length {I : Im} : ∀ {aas : List AV} {vs : List Value}, RepL I aas vs → vs.length = aas.length
  | [], [], _ => rfl
  | _ :: aas, _ :: vs, r => by simp [RepL.length r.2]
  | [], _ :: _, r => r.elim
  | _ :: _, [], r => r.elim
theorem RepL.get {I : Im} : ∀ {aas : List AV} {vs : List Value}, RepL I aas vs → ∀ {i : Nat} {a : AV}, aas[i]? = some a → ∃ v, vs[i]? = some v ∧ Rep I a v
  | [], [], _, i, a, h => by simp at h
  | x :: aas, v :: vs, r, 0, a, h => by simp at h; subst h; exact ⟨v, rfl, r.1⟩
  | x :: aas, v :: vs, r, i + 1, a, h => by simpa using RepL.get r.2 (i := i) (by simpa using h)
  | [], _ :: _, r, _, _, _ => r.elim
  | _ :: _, [], r, _, _, _ => r.elim
theorem RepL.append {I : Im} : ∀ {aas : List AV} {vs : List Value} {bs : List AV} {us : List Value}, RepL I aas vs → RepL I bs us → RepL I (aas ++ bs) (vs ++ us)
  | [], [], _, _, _, k => k
  | _ :: _, _ :: _, _, _, r, k => ⟨r.1, RepL.append r.2 k⟩
  | [], _ :: _, _, _, r, _ => r.elim
  | _ :: _, [], _, _, r, _ => r.elim
theorem RepL.take {I : Im} : ∀ (n : Nat) {aas : List AV} {vs : List Value}, RepL I aas vs → RepL I (aas.take n) (vs.take n)
  | 0, _, _, _ => by simp [RepL]
  | n + 1, [], [], _ => by simp [RepL]
  | n + 1, _ :: _, _ :: _, r => ⟨r.1, RepL.take n r.2⟩
  | _ + 1, [], _ :: _, r => r.elim
  | _ + 1, _ :: _, [], r => r.elim
theorem RepL.drop {I : Im} : ∀ (n : Nat) {aas : List AV} {vs : List Value}, RepL I aas vs → RepL I (aas.drop n) (vs.drop n)
  | 0, _, _, r => by simpa using r
  | n + 1, [], [], _ => by simp [RepL]
  | n + 1, _ :: _, _ :: _, r => by simpa using RepL.drop n r.2
  | _ + 1, [], _ :: _, r => r.elim
  | _ + 1, _ :: _, [], r => r.elim
theorem RepL.set {I : Im} : ∀ {aas : List AV} {vs : List Value} (i : Nat) {a : AV} {v : Value}, RepL I aas vs → Rep I a v → RepL I (aas.set i a) (vs.set i v)
  | [], [], _, _, _, _, _ => by simp [RepL]
  | _ :: _, _ :: _, 0, _, _, r, k => ⟨k, r.2⟩
  | _ :: _, _ :: _, i + 1, _, _, r, k => ⟨r.1, RepL.set i r.2 k⟩
  | [], _ :: _, _, _, _, r, _ => r.elim
  | _ :: _, [], _, _, _, r, _ => r.elim
theorem Rep.cells {I : Im} {a : AV} {v : Value} (h : Rep I a v) (hu : a ≠ .undef) (hn : a ≠ .no) : RepL I a.cells v.cells.toList := by
  cases a <;> simp only [Rep] at h
  case undef => exact absurd rfl hu
  case no => exact absurd rfl hn
  case agg cs => obtain ⟨vs, rfl, hr⟩ := h; simpa [AV.cells, Value.cells] using hr
  case iptr x off => obtain ⟨b, o, u, rfl, hx, hr⟩ := h; simp only [AV.cells, Value.cells, RepL]; exact ⟨by simp only [Rep]; exact ⟨b, o, u, rfl, hx, hr⟩, trivial⟩
  case sl xs t => obtain ⟨a, c, sz, rfl, hr⟩ := h; simp only [AV.cells, Value.cells, RepL]; exact ⟨by simp only [Rep]; exact ⟨a, c, sz, rfl, hr⟩, trivial⟩
  case osl b n c => obtain ⟨rfl, hr⟩ := h; simp only [AV.cells, Value.cells, RepL]; exact ⟨by simp only [Rep]; exact ⟨trivial, hr⟩, trivial⟩
  case clo => obtain ⟨us, vs, rfl, hr⟩ := h; simp only [AV.cells, Value.cells, RepL]; exact ⟨by simp only [Rep]; exact ⟨us, vs, rfl, hr⟩, trivial⟩
  case tup => obtain ⟨vs, rfl, hr⟩ := h; simp only [AV.cells, Value.cells, RepL]; exact ⟨by simp only [Rep]; exact ⟨vs, rfl, hr⟩, trivial⟩
  all_goals (subst h; simp [AV.cells, Value.cells, RepL, Rep])
theorem Rep.cells' {I : Im} {a : AV} {v : Value} (h : Rep I a v) (hp : 0 < a.cells.length) : RepL I a.cells v.cells.toList :=
  h.cells (fun e => by rw [e] at hp; simp [AV.cells] at hp) (fun e => by rw [e] at hp; simp [AV.cells] at hp)
theorem RepR.get {I : Im} {sz : Nat} : ∀ {xs : List AV} {b o : Nat}, RepR I sz xs b o → ∀ {i : Nat} {x : AV}, xs[i]? = some x → ∃ u, Rep I x u ∧ u.cells.size = sz ∧ Row I b (o + i * sz) u
  | [], _, _, _, i, x, h => by simp at h
  | y :: xs, b, o, r, 0, x, h => by
    simp only [RepR] at r
    obtain ⟨⟨u, h1, h2, h3⟩, _⟩ := r
    simp at h; subst h
    exact ⟨u, h1, h2, by simpa using h3⟩
  | y :: xs, b, o, r, i + 1, x, h => by
    simp only [RepR] at r
    obtain ⟨u, h1, h2, h3⟩ := RepR.get r.2 (i := i) (by simpa using h)
    exact ⟨u, h1, h2, by rw [show o + (i + 1) * sz = o + sz + i * sz by rw [Nat.add_mul]; omega]; exact h3⟩
theorem RepR.append {I : Im} {sz : Nat} : ∀ {xs ys : List AV} {b o : Nat}, RepR I sz xs b o → RepR I sz ys b (o + xs.length * sz) → RepR I sz (xs ++ ys) b o
  | [], ys, b, o, _, k => by simpa using k
  | x :: xs, ys, b, o, r, k => by
    simp only [RepR, List.cons_append] at r ⊢
    exact ⟨r.1, RepR.append r.2 (by rw [show o + sz + xs.length * sz = o + (x :: xs).length * sz by simp [Nat.add_mul]; omega]; exact k)⟩
theorem RepR.take {I : Im} {sz : Nat} : ∀ (n : Nat) {xs : List AV} {b o : Nat}, RepR I sz xs b o → RepR I sz (xs.take n) b o
  | 0, _, _, _, _ => by simp [RepR]
  | _ + 1, [], _, _, _ => by simp [RepR]
  | n + 1, _ :: _, _, _, r => by simp only [List.take_succ_cons, RepR] at r ⊢; exact ⟨r.1, RepR.take n r.2⟩
theorem RepR.drop {I : Im} {sz : Nat} : ∀ (n : Nat) {xs : List AV} {b o : Nat}, RepR I sz xs b o → RepR I sz (xs.drop n) b (o + n * sz)
  | 0, _, _, _, r => by simpa using r
  | _ + 1, [], _, _, _ => by simp [RepR]
  | n + 1, _ :: _, b, o, r => by
    simp only [List.drop_succ_cons, RepR] at r ⊢
    have := RepR.drop n r.2
    rwa [show o + sz + n * sz = o + (n + 1) * sz by rw [Nat.add_mul]; omega] at this
end Go.Proofs.Ytddbnncimggogaa.V
end
section
set_option linter.unusedSimpArgs false
set_option linter.unusedVariables false
/- The operations over values with rows taken in; what they yield. -/
namespace Go.Proofs.Ytddbnncimggogaa.V
open Go Go.RowKit
variable {P : Program}
inductive VE where
  | t (i : Nat)
  | c (a : AV)
  deriving Inhabited
structure Fr where
  t : Nat → AV
  d : List Nat
def VE.ev (x : VE) (fr : Fr) : AV := match x with | .t i => fr.t i | .c a => a
inductive AObj where
  | cells (cs : List AV)
  | raw (o : Obj)
structure St where
  objs : Nat → Option AObj
  live : Tk → Bool
def AV.isCell : AV → Bool
  | .agg _ | .tup _ | .undef | .no => false
  | _ => true
def AV.isUndef : AV → Bool | .undef => true | _ => false
def grab (cs : List AV) (off n : Nat) (ag : Bool) : Option AV :=
  if off + n ≤ cs.length then (if ag then some (.agg ((cs.drop off).take n)) else cs[off]?) else none
def vload (st : St) (a : AV) (n : Nat) (ag : Bool) : Option AV :=
  match a with
  | .ptr b off => match st.objs b with
    | some (.cells cs) => grab cs off n ag
    | _ => none
  | .iptr x off => if x.isUndef then none else grab x.cells off n ag
  | _ => none
theorem cell_of {w : World} {b : Nat} {vs : Array Value} {ty : TypeId} {fz : Nat × Nat} (h : w.heap[b]? = some (.cells vs ty fz)) (j : Nat) : w.cell? ⟨b, j, none⟩ = vs[j]? := by
  simp [World.cell?, h]
theorem run_loadVar_one (w : World) (ty : TypeId) (a : Addr) (v : Value) (d : TypeDesc) (hu : P.underlying ty = some d) (hd : d.isRow = false) (hc : w.cell? a = some v) : (loadVar ty a).run P w = .ok v w := by
  have hagg : (isAgg ty).run P w = .ok false w := by
    unfold isAgg
    rw [Sem.run_bind, run_underlying hu w]
    cases d <;> simp_all
  unfold loadVar
  rw [Sem.run_bind, hagg]
  simp [Result.andThen, go_sem, hc]
/-- A load of n cells out of a row of cells that lies in memory. -/
theorem load_of {I : Im} {W : World} {t : TypeId} {d : TypeDesc} {i : TypeInfo} (hu : P.underlying t = some d) (hi : P.info? t = some i) {b o : Nat} {cs : List AV} {vs : List Value}
    (hr : RepL I cs vs) (hm : ∀ j u, vs[j]? = some u → W.cell? ⟨b, o + j, none⟩ = some u) {off : Nat} {v : AV} (hg : grab cs off i.size d.isRow = some v) :
    ∃ u, (loadVar t ⟨b, o + off, none⟩).run P W = .ok u W ∧ Rep I v u := by
  unfold grab at hg
  split at hg
  case isFalse => cases hg
  case isTrue hle =>
    cases hd : d.isRow with
    | true =>
      rw [hd] at hg
      simp only [if_true, Option.some.injEq] at hg
      subst hg
      have hlen : ((vs.drop off).take i.size).length = i.size := by
        have := hr.length
        simp; omega
      refine ⟨_, run_loadVar_mid W b (o + off) t ((vs.drop off).take i.size) d (fun j u hj => ?_) hu hd (by rw [hi]; simp [hlen]), ?_⟩
      · rw [List.getElem?_take] at hj
        split at hj
        · rw [List.getElem?_drop] at hj
          rw [Nat.add_assoc]; exact hm _ _ hj
        · cases hj
      · simp only [Rep]
        exact ⟨_, rfl, by simpa using (hr.drop off).take i.size⟩
    | false =>
      rw [hd] at hg
      simp only [Bool.false_eq_true, if_false] at hg
      obtain ⟨u, hu', hru⟩ := hr.get hg
      exact ⟨u, run_loadVar_one W t _ u d hu hd (hm _ _ hu'), hru⟩
/-! ### Numbers, tests -/
def shiftV (op : BinOp) (k : IntKind) (a b : Int) : Int := match op with | .shl => k.wrap (a * 2 ^ b.toNat) | _ => a.fdiv (2 ^ b.toNat)
def vbin (op : BinOp) (x y : AV) : Option AV :=
  match op, x, y with
  | .add, .int k a, .int k' b => if k = k' then some (.int k (k.wrap (a + b))) else none
  | .sub, .int k a, .int k' b => if k = k' then some (.int k (k.wrap (a - b))) else none
  | .mul, .int k a, .int k' b => if k = k' then some (.int k (k.wrap (a * b))) else none
  | .quo, .int k a, .int k' b => if k = k' ∧ b ≠ 0 then some (.int k (k.wrap (a.tdiv b))) else none
  | .rem, .int k a, .int k' b => if k = k' ∧ b ≠ 0 then some (.int k (a.tmod b)) else none
  | .eql, .int k a, .int k' b => if k = k' then some (.bool (a == b)) else none
  | .neq, .int k a, .int k' b => if k = k' then some (.bool (a != b)) else none
  | .lss, .int k a, .int k' b => if k = k' then some (.bool (decide (a < b))) else none
  | .leq, .int k a, .int k' b => if k = k' then some (.bool (decide (a ≤ b))) else none
  | .gtr, .int k a, .int k' b => if k = k' then some (.bool (decide (b < a))) else none
  | .geq, .int k a, .int k' b => if k = k' then some (.bool (decide (b ≤ a))) else none
  | .shr, .int k a, .int _ b => if 0 ≤ b ∧ b < k.bits then some (.int k (shiftV .shr k a b)) else none
  | .shl, .int k a, .int _ b => if 0 ≤ b ∧ b < k.bits then some (.int k (shiftV .shl k a b)) else none
  | .eql, .str a, .str b => some (.bool (a.toList == b.toList))
  | .neq, .str a, .str b => some (.bool (!(a.toList == b.toList)))
  | .lss, .str a, .str b => some (.bool (Op.bytesLess a.toList b.toList))
  | .gtr, .str a, .str b => some (.bool (!(Op.bytesLess a.toList b.toList || a.toList == b.toList)))
  | _, _, _ => none
theorem ite_some {α : Type} {c : Prop} [Decidable c] {x v : α} (h : (if c then some x else none) = some v) : c ∧ x = v := by
  by_cases hc : c
  · rw [if_pos hc] at h; exact ⟨hc, Option.some.inj h⟩
  · rw [if_neg hc] at h; cases h
theorem shift_ok (W : World) {t : TypeId} {x y : Operand} (op : BinOp) (ho : op = .shl ∨ op = .shr) (k k' : IntKind) {a b : Int} (h0 : 0 ≤ b) (h1 : b < k.bits) :
    (do eqGuard op t x y (.int k a) (.int k' b); binOp op t (.int k a) (.int k' b) : Sem Value).run P W = .ok (.int k (shiftV op k a b)) W := by
  have hm : min b.toNat k.bits = b.toNat := by omega
  have hn : ¬ b < 0 := by omega
  rcases ho with rfl | rfl
  · simp only [eqGuard, binOp, Op.shift, hm, if_neg hn, shiftV]; simp [go_sem]
  · simp only [eqGuard, binOp, Op.shift, hm, if_neg hn, shiftV]; simp [go_sem]
theorem vbin_ok {I : Im} {W : World} {op : BinOp} {t : TypeId} {x y : Operand} {a b v : AV} {u w : Value} (ha : Rep I a u) (hb : Rep I b w) (h : vbin op a b = some v) :
    ∃ z, (do eqGuard op t x y u w; binOp op t u w : Sem Value).run P W = .ok z W ∧ Rep I v z := by
  unfold vbin at h
  split at h
  all_goals first
    | (obtain ⟨hk, rfl⟩ := ite_some h; simp only [Rep] at ha hb; subst ha hb; refine ⟨_, ?_, by simp only [Rep]; rfl⟩; simp_all [eqGuard, binOp, Op.intArith, Op.intDiv, Op.intCmp, go_sem]; done)
    | (obtain ⟨hk, rfl⟩ := ite_some h; simp only [Rep] at ha hb; subst ha hb; refine ⟨_, ?_, by simp only [Rep]; rfl⟩; obtain ⟨rfl, h0⟩ := hk; simp [eqGuard, binOp, Op.intArith, Op.intDiv, Op.intCmp, go_sem, h0]; done)
    | (simp only [Rep] at ha hb; subst ha hb; cases h; refine ⟨_, ?_, by simp only [Rep]; rfl⟩; simp [eqGuard, binOp, Op.stringOp, go_sem]; done)
    | (obtain ⟨⟨h0, h1⟩, rfl⟩ := ite_some h; simp only [Rep] at ha hb; subst ha hb; refine ⟨_, shift_ok W _ (by simp) _ _ h0 h1, by simp only [Rep]⟩)
    | (cases h; done)
def vun (op : UnOp) (x : AV) : Option AV :=
  match op, x with
  | .not, .bool b => some (.bool (!b))
  | .neg, .int k n => some (.int k (k.wrap (0 - n)))
  | _, _ => none
theorem vun_ok {I : Im} {W : World} {op : UnOp} {a v : AV} {u : Value} (ha : Rep I a u) (h : vun op a = some v) : ∃ z, (Op.unary op u).run P W = .ok z W ∧ Rep I v z := by
  unfold vun at h
  split at h
  all_goals first
    | (cases h; done)
    | (simp only [Rep] at ha; subst ha; cases h; refine ⟨_, ?_, by simp only [Rep]; rfl⟩; simp [Op.unary, Op.intArith, go_sem])
def vconv (k : IntKind) (x : AV) : Option AV := match x with | .int _ n => some (.int k (k.wrap n)) | _ => none
theorem vconv_ok {I : Im} {W : World} {s d : TypeId} {k : IntKind} {ds : TypeDesc} {a v : AV} {u : Value} (hs : P.underlying s = some ds) (hd : P.underlying d = some (.int k)) (ha : Rep I a u) (h : vconv k a = some v) :
    ∃ z, (convert s d u).run P W = .ok z W ∧ Rep I v z := by
  unfold vconv at h
  split at h
  · cases h
    simp only [Rep] at ha; subst ha
    refine ⟨_, ?_, by simp only [Rep]; rfl⟩
    simp [convert, run_underlying hs, run_underlying hd, Conv.intToInt, go_sem]
  · cases h
def vmin2 (x y : AV) : Option AV := match x, y with | .int k a, .int _ b => some (.int k (min a b)) | _, _ => none
def vmax2 (x y : AV) : Option AV := match x, y with | .int k a, .int _ b => some (.int k (max a b)) | _, _ => none
def vext (x : AV) (i : Nat) : Option AV := match x with | .tup vs => vs[i]? | _ => none
theorem vext_ok {I : Im} {W : World} {a v : AV} {u : Value} {i : Nat} (ha : Rep I a u) (h : vext a i = some v) : ∃ z, (Instr.extract u i).run P W = .ok z W ∧ Rep I v z := by
  unfold vext at h
  split at h
  · simp only [Rep] at ha
    obtain ⟨vs, rfl, hr⟩ := ha
    obtain ⟨z, hz, hrz⟩ := hr.get h
    refine ⟨z, ?_, hrz⟩
    have : vs[i]? = some z := by simpa using hz
    simp [Instr.extract, this, go_sem]
  · cases h
def vlen (x : AV) : Option AV := match x with
  | .sl xs _ => some (.int .i64 xs.length)
  | .osl _ n _ => some (.int .i64 n)
  | _ => none
theorem vlen_ok {I : Im} {W : World} {t ty e : TypeId} {a v : AV} {u : Value} (hu : P.underlying t = some (.slice e)) (ha : Rep I a u) (h : vlen a = some v) : ∃ z, (Builtin.len_ #[t] ty #[u]).run P W = .ok z W ∧ Rep I v z := by
  unfold vlen at h
  split at h
  · cases h
    simp only [Rep] at ha
    obtain ⟨a, c, sz, rfl, _⟩ := ha
    refine ⟨_, ?_, by simp only [Rep]; rfl⟩; simp [Builtin.len_, run_underlying hu, goInt, go_sem]
  · cases h
    simp only [Rep] at ha
    obtain ⟨rfl, _⟩ := ha
    refine ⟨_, ?_, by simp only [Rep]; rfl⟩; simp [Builtin.len_, run_underlying hu, goInt, go_sem]
  · cases h
def vlens (x : AV) : Option AV := match x with | .str s => some (.int .i64 s.size) | _ => none
theorem vlens_ok {I : Im} {W : World} {t ty : TypeId} {a v : AV} {u : Value} (hu : P.underlying t = some .string) (ha : Rep I a u) (h : vlens a = some v) : ∃ z, (Builtin.len_ #[t] ty #[u]).run P W = .ok z W ∧ Rep I v z := by
  unfold vlens at h
  split at h
  · cases h
    simp only [Rep] at ha; subst ha
    refine ⟨_, ?_, by simp only [Rep]; rfl⟩; simp [Builtin.len_, run_underlying hu, goInt, go_sem]
  · cases h
/-! ### Places -/
def vfad (off : Nat) (x : AV) : Option AV := match x with
  | .ptr b o => some (.ptr b (o + off))
  | .iptr y o => some (.iptr y (o + off))
  | _ => none
theorem addr_add (b o n : Nat) : (⟨b, o, none⟩ : Addr).add n = ⟨b, o + n, none⟩ := by unfold Addr.add; split <;> simp_all
theorem vfad_addr {I : Im} {off : Nat} {a v : AV} {u : Value} (ha : Rep I a u) (h : vfad off a = some v) : ∃ ad, u = .pointer (some ad) ∧ Rep I v (.pointer (some (ad.add off))) := by
  unfold vfad at h
  split at h
  · cases h
    simp only [Rep] at ha ⊢; subst ha
    exact ⟨_, rfl, by rw [addr_add]⟩
  · cases h
    simp only [Rep] at ha ⊢
    obtain ⟨b, o, u, rfl, hx, hr⟩ := ha
    exact ⟨_, rfl, b, o, u, by rw [addr_add, Nat.add_assoc], hx, hr⟩
  · cases h
theorem vfad_ok {I : Im} {W : World} {s : TypeId} {fs : Array Field} {f : Nat} {fd : Field} {i : TypeInfo} (hs : P.underlying s = some (.struct fs)) (hf : fs[f]? = some fd) (hi : P.info? fd.type = some i) (h0 : i.size ≠ 0)
    {a v : AV} {u : Value} (ha : Rep I a u) (h : vfad fd.offset a = some v) : ∃ z, (Instr.fieldAt s u f).run P W = .ok z W ∧ Rep I v z := by
  obtain ⟨ad, rfl, hr⟩ := vfad_addr ha h
  refine ⟨_, ?_, hr⟩
  simp [Instr.fieldAt, run_underlying hs, hf, Instr.sureAddr, fieldPlace, sizeOf, typeInfo, hi, h0, go_sem]
def vfld (off n : Nat) (ag : Bool) (x : AV) : Option AV := match x with
  | .agg cs => grab cs off n ag
  | _ => none
theorem run_part {I : Im} {W : World} {t : TypeId} {d : TypeDesc} {i : TypeInfo} (hu : P.underlying t = some d) (hi : P.info? t = some i) {cs : List AV} {vs : Array Value} (hr : RepL I cs vs.toList) {off : Nat} {v : AV}
    (h : grab cs off i.size d.isRow = some v) : ∃ z, (part t vs off).run P W = .ok z W ∧ Rep I v z := by
  unfold grab at h
  split at h
  case isFalse => cases h
  case isTrue hle =>
    cases hd : d.isRow with
    | true =>
      rw [hd] at h
      simp only [if_true, Option.some.injEq] at h
      subst h
      have hagg : (isAgg t).run P W = .ok true W := by
        unfold isAgg
        rw [Sem.run_bind, run_underlying hu W]
        cases d <;> simp_all
      refine ⟨.agg (vs.extract off (off + i.size)), ?_, ?_⟩
      · simp [part, hagg, sizeOf, typeInfo, hi, go_sem]
      · simp only [Rep]
        refine ⟨_, rfl, ?_⟩
        have := (hr.drop off).take i.size
        simpa [Array.toList_extract, List.extract_eq_take_drop] using this
    | false =>
      rw [hd] at h
      simp only [Bool.false_eq_true, if_false] at h
      have hagg : (isAgg t).run P W = .ok false W := by
        unfold isAgg
        rw [Sem.run_bind, run_underlying hu W]
        cases d <;> simp_all
      obtain ⟨z, hz, hrz⟩ := hr.get h
      have hz' : vs[off]? = some z := by simpa using hz
      exact ⟨z, by simp [part, hagg, hz', go_sem], hrz⟩
theorem vfld_ok {I : Im} {W : World} {s : TypeId} {fs : Array Field} {f : Nat} {fd : Field} {d : TypeDesc} {i : TypeInfo} (hs : P.underlying s = some (.struct fs)) (hf : fs[f]? = some fd) (hu : P.underlying fd.type = some d) (hi : P.info? fd.type = some i)
    {a v : AV} {u : Value} (ha : Rep I a u) (h : vfld fd.offset i.size d.isRow a = some v) : ∃ z, (Instr.field s u f).run P W = .ok z W ∧ Rep I v z := by
  unfold vfld at h
  split at h
  · simp only [Rep] at ha
    obtain ⟨vs, rfl, hr⟩ := ha
    obtain ⟨z, hz, hrz⟩ := run_part (W := W) hu hi hr h
    refine ⟨z, ?_, hrz⟩; simp only [Instr.field, Sem.run_bind, run_underlying hs, Result.andThen_ok, hf, asAgg, Sem.run_pure]; exact hz
  · cases h
def viad (sz : Nat) (x i : AV) : Option AV := match x, i with
  | .sl xs _, .int _ n => if 0 ≤ n then (match xs[n.toNat]? with | some x => if x.cells.length = sz ∧ 0 < sz then some (.iptr x 0) else none | none => none) else none
  | .osl b m _, .int _ n => if 0 ≤ n ∧ n < m then some (.ptr b (n.toNat * sz)) else none
  | _, _ => none
theorem viad_ok {I : Im} {W : World} {t e : TypeId} {i : TypeInfo} (ht : P.underlying t = some (.slice e)) (hi : P.info? e = some i) {a b v : AV} {u w : Value} (ha : Rep I a u) (hb : Rep I b w) (h : viad i.size a b = some v) :
    ∃ z, (Instr.indexAt t u w).run P W = .ok z W ∧ Rep I v z := by
  unfold viad at h
  split at h
  · split at h
    · rename_i xs tk k n h0
      split at h
      · rename_i x hx
        obtain ⟨⟨hl, hp0⟩, rfl⟩ := ite_some h
        simp only [Rep] at ha hb
        subst hb
        obtain ⟨ad, c, sz, rfl, h1, h2, h3, h4, h5, h6⟩ := ha
        have hlt := (List.getElem?_eq_some_iff.1 hx).1
        rcases h3 with rfl | ⟨bb, o, rfl, hR⟩
        · simp at hlt
        · obtain ⟨u, hu1, hu2, hu3⟩ := hR.get hx
          have hsz : sz = i.size := by
            have := (hu1.cells' (by omega)).length
            rw [← hu2, ← hl, ← this]; simp
          subst hsz
          refine ⟨.pointer (some ((⟨bb, o, none⟩ : Addr).add (n.toNat * i.size))), ?_, ?_⟩
          · have : n < xs.length := by omega
            simp [Instr.indexAt, asIntOf, run_underlying ht, h0, this, sizeOf, typeInfo, hi, go_sem]
          · simp only [Rep]
            exact ⟨bb, o + n.toNat * i.size, u, by rw [addr_add]; rfl, hu1, hu3⟩
      · cases h
    · cases h
  · rename_i bb m cc k n
    obtain ⟨⟨h0, hlt⟩, rfl⟩ := ite_some h
    simp only [Rep] at ha hb
    subst hb
    obtain ⟨rfl, hc⟩ := ha
    refine ⟨.pointer (some ((⟨bb, 0, none⟩ : Addr).add (n.toNat * i.size))), ?_, ?_⟩
    · simp [Instr.indexAt, asIntOf, run_underlying ht, h0, hlt, sizeOf, typeInfo, hi, go_sem]
    · simp only [Rep]
      rw [addr_add, Nat.zero_add]
  · cases h
def viaa (len sz : Nat) (x i : AV) : Option AV := match i with
  | .int _ n => if 0 ≤ n ∧ n < len then vfad (n.toNat * sz) x else none
  | _ => none
theorem viaa_ok {I : Im} {W : World} {t e : TypeId} {len : Nat} {i : TypeInfo} (ht : P.underlying t = some (.array len e)) (hi : P.info? e = some i) {a b v : AV} {u w : Value} (ha : Rep I a u) (hb : Rep I b w) (h : viaa len i.size a b = some v) :
    ∃ z, (Instr.indexAt t u w).run P W = .ok z W ∧ Rep I v z := by
  unfold viaa at h
  split at h
  · split at h
    · rename_i k n hc
      obtain ⟨ad, rfl, hr⟩ := vfad_addr ha h
      simp only [Rep] at hb; subst hb
      refine ⟨_, ?_, hr⟩
      simp [Instr.indexAt, asIntOf, run_underlying ht, Instr.sureAddr, hc, sizeOf, typeInfo, hi, go_sem]
    · cases h
  · cases h
def vixa (len sz : Nat) (ag : Bool) (x i : AV) : Option AV := match x, i with
  | .agg cs, .int _ n => if 0 ≤ n ∧ n < len then grab cs (n.toNat * sz) sz ag else none
  | _, _ => none
theorem vixa_ok {I : Im} {W : World} {t e : TypeId} {len : Nat} {d : TypeDesc} {i : TypeInfo} (ht : P.underlying t = some (.array len e)) (hu : P.underlying e = some d) (hi : P.info? e = some i) {a b v : AV} {u w : Value} (ha : Rep I a u) (hb : Rep I b w)
    (h : vixa len i.size d.isRow a b = some v) : ∃ z, (Instr.index t u w).run P W = .ok z W ∧ Rep I v z := by
  unfold vixa at h
  split at h
  · split at h
    · rename_i cs k n hc
      simp only [Rep] at ha hb; subst hb
      obtain ⟨vs, rfl, hr⟩ := ha
      obtain ⟨z, hz, hrz⟩ := run_part (W := W) hu hi hr h
      have hsz : (sizeOf e).run P W = .ok i.size W := by simp [sizeOf, typeInfo, hi, go_sem]
      refine ⟨z, ?_, hrz⟩
      simp only [Instr.index, asIntOf, Sem.run_bind, run_underlying ht, Result.andThen_ok, Sem.run_pure]
      rw [if_pos hc]
      simp only [Sem.run_bind, hsz, Result.andThen_ok]
      exact hz
    · cases h
  · cases h
def vixs (x i : AV) : Option AV := match x, i with
  | .str s, .int _ n => if 0 ≤ n then (s[n.toNat]?).map (fun b => .int .u8 b.toNat) else none
  | _, _ => none
theorem vixs_ok {I : Im} {W : World} {t : TypeId} (ht : P.underlying t = some .string) {a b v : AV} {u w : Value} (ha : Rep I a u) (hb : Rep I b w) (h : vixs a b = some v) : ∃ z, (Instr.index t u w).run P W = .ok z W ∧ Rep I v z := by
  unfold vixs at h
  split at h
  · split at h
    · rename_i s k n hc
      simp only [Rep] at ha hb; subst ha hb
      cases hx : s[n.toNat]? with
      | none => rw [hx] at h; cases h
      | some x =>
        rw [hx] at h; cases h
        refine ⟨_, ?_, by simp only [Rep]; rfl⟩; simp [Instr.index, asIntOf, run_underlying ht, hc, hx, go_sem]
    · cases h
  · cases h
def vnchk (x : AV) : Option AV := match x with
  | .ptr b o => some (.ptr b o)
  | .iptr y o => some (.iptr y o)
  | .clo f a c => some (.clo f a c)
  | .yld l => some (.yld l)
  | _ => none
theorem vnchk_ok {I : Im} {W : World} {a v : AV} {u : Value} (ha : Rep I a u) (h : vnchk a = some v) :
    v = a ∧ ∀ (ρ : Operand → Value) (o : Oper) (x : Operand), o.op = .nilCheck x → ρ x = u → (execOp ρ o).run P W = .ok (.value u) W := by
  unfold vnchk at h
  split at h
  · cases h; simp only [Rep] at ha; subst ha; exact ⟨rfl, fun ρ o x ho hx => by simp [execOp, ho, hx, go_sem]⟩
  · cases h; simp only [Rep] at ha; obtain ⟨b, o, u, rfl, _⟩ := ha; exact ⟨rfl, fun ρ o x ho hx => by simp [execOp, ho, hx, go_sem]⟩
  · cases h; simp only [Rep] at ha; obtain ⟨us, vs, rfl, _⟩ := ha; exact ⟨rfl, fun ρ o x ho hx => by simp [execOp, ho, hx, go_sem]⟩
  · cases h; simp only [Rep] at ha; subst ha; exact ⟨rfl, fun ρ o x ho hx => by simp [execOp, ho, hx, go_sem]⟩
  · cases h
end Go.Proofs.Ytddbnncimggogaa.V
end
section
set_option linter.unusedSimpArgs false
set_option linter.unusedVariables false
/- What a world is to a state; memory made and written. -/
namespace Go.Proofs.Ytddbnncimggogaa.V
open Go Go.RowKit
variable {P : Program}
structure Upd (X : Nat → Prop) (w w' : World) : Prop where
  os : w'.os = w.os
  tape : w'.tape = w.tape
  output : w'.output = w.output
  size : w.heap.size ≤ w'.heap.size
  same : ∀ k, k < w.heap.size → ¬ X k → w'.heap[k]? = w.heap[k]?
theorem Upd.refl (X : Nat → Prop) (w : World) : Upd X w w := ⟨rfl, rfl, rfl, Nat.le_refl _, fun _ _ _ => rfl⟩
theorem Upd.trans {X : Nat → Prop} {a b c : World} (h : Upd X a b) (k : Upd (fun j => X j ∨ a.heap.size ≤ j) b c) : Upd X a c :=
  ⟨k.os.trans h.os, k.tape.trans h.tape, k.output.trans h.output, Nat.le_trans h.size k.size, fun i hi hx => (k.same i (Nat.lt_of_lt_of_le hi h.size) (fun e => e.elim hx (fun e => by omega))).trans (h.same i hi hx)⟩
theorem Upd.mono {X Y : Nat → Prop} {a b : World} (h : Upd X a b) (hx : ∀ k, k < a.heap.size → X k → Y k) : Upd Y a b :=
  ⟨h.os, h.tape, h.output, h.size, fun i hi hy => h.same i hi (fun hk => hy (hx i hi hk))⟩
theorem Upd.below {B : Nat} {w w' : World} (h : Upd (fun _ => False) w w') (hB : B ≤ w.heap.size) : Below B w w' :=
  ⟨h.os, h.tape, h.output, h.size, fun k hk => h.same k (by omega) (fun e => e)⟩
def St.own (st : St) (b : Nat) : Prop := (∃ o, st.objs b = some o) ∨ ∃ k, st.live k = true ∧ k.b = b
def St.ins (st : St) (b : Nat) (o : AObj) : St := { st with objs := fun i => if i = b then some o else st.objs i }
def St.has (st : St) (sz : Nat) (t : Tok) : Bool := match t with | .no => false | .full => true | .own k => st.live k && k.sz == sz
def St.kill (st : St) (t : Tok) : St := match t with | .own k => { st with live := fun j => if j = k then false else st.live j } | _ => st
def St.add (st : St) (t : Tok) : St := match t with | .own k => { st with live := fun j => if j = k then true else st.live j } | _ => st
structure Base where
  X : Nat → Prop
  W : World
  I : Im
structure Rel (B : Base) (I : Im) (st : St) (W : World) : Prop where
  cells : ∀ b cs, st.objs b = some (.cells cs) → ∃ vs ty, W.heap[b]? = some (.cells vs ty (0, 0)) ∧ RepL I cs vs.toList
  raw : ∀ b o, st.objs b = some (.raw o) → W.heap[b]? = some o
  imm : ∀ b o v, I b o = some v → W.cell? ⟨b, o, none⟩ = some v
  sep : ∀ b x, st.objs b = some x → ∀ o, I b o = none
  tk : ∀ k, st.live k = true → ∃ arr ty, W.heap[k.b]? = some (.cells arr ty (0, 0)) ∧ k.en ≤ arr.size ∧ (∀ o, k.fr ≤ o → I k.b o = none) ∧ st.objs k.b = none
  tk1 : ∀ k j, st.live k = true → st.live j = true → k.b = j.b → k = j
  upd : Upd B.X B.W W
  own : ∀ b, st.own b → B.X b ∨ B.W.heap.size ≤ b
  le : B.I.le I
  new : ∀ b o, I b o ≠ none → B.I b o ≠ none ∨ B.X b ∨ B.W.heap.size ≤ b
section
variable {B : Base} {I : Im} {st : St} {W : World}
theorem Rel.objs_lt (h : Rel B I st W) {b : Nat} {o : AObj} (hb : st.objs b = some o) : b < W.heap.size := by
  cases o with
  | cells cs => obtain ⟨vs, ty, e, _⟩ := h.cells b cs hb; exact (Array.getElem?_eq_some_iff.1 e).1
  | raw o => exact (Array.getElem?_eq_some_iff.1 (h.raw b o hb)).1
theorem Rel.imm_lt (h : Rel B I st W) {b o : Nat} {v : Value} (hb : I b o = some v) : b < W.heap.size := by
  have := h.imm b o v hb
  unfold World.cell? at this
  cases hx : W.heap[b]? with
  | none => simp [hx] at this
  | some x => exact (Array.getElem?_eq_some_iff.1 hx).1
theorem Rel.live_lt (h : Rel B I st W) {k : Tk} (hk : st.live k = true) : k.b < W.heap.size := by
  obtain ⟨arr, ty, e, _⟩ := h.tk k hk; exact (Array.getElem?_eq_some_iff.1 e).1
theorem Rel.fresh (h : Rel B I st W) {b : Nat} (hb : W.heap.size ≤ b) : st.objs b = none := by
  cases ho : st.objs b with
  | none => rfl
  | some o => have := h.objs_lt ho; omega
theorem Rel.fresh_live (h : Rel B I st W) {k : Tk} (hb : W.heap.size ≤ k.b) : st.live k = false := by
  cases ho : st.live k with
  | false => rfl
  | true => have := h.live_lt ho; omega
theorem Rel.immNone (h : Rel B I st W) {b : Nat} (hb : W.heap.size ≤ b) (o : Nat) : I b o = none := by
  cases ho : I b o with
  | none => rfl
  | some v => have := h.imm_lt ho; omega
/-- The same state in a world that differs in nothing of it. -/
theorem Rel.step (h : Rel B I st W) {W' : World} {Y : Nat → Prop} (hu : Upd Y W W') (hY : ∀ k, Y k → B.W.heap.size ≤ k ∨ B.X k) (h1 : ∀ b, st.own b → ¬ Y b) (h2 : ∀ b o, I b o ≠ none → ¬ Y b) : Rel B I st W' where
  cells b cs hb := by
    obtain ⟨vs, ty, e, r⟩ := h.cells b cs hb
    exact ⟨vs, ty, (hu.same b (h.objs_lt hb) (h1 b (.inl ⟨_, hb⟩))).trans e, r⟩
  raw b o hb := (hu.same b (h.objs_lt hb) (h1 b (.inl ⟨_, hb⟩))).trans (h.raw b o hb)
  imm b o v hv := by
    have := h.imm b o v hv
    unfold World.cell? at this ⊢
    rw [hu.same b (h.imm_lt hv) (h2 b o (by rw [hv]; simp))]
    exact this
  sep := h.sep
  tk k hk := by
    obtain ⟨arr, ty, e, r⟩ := h.tk k hk
    exact ⟨arr, ty, (hu.same k.b (h.live_lt hk) (h1 _ (.inr ⟨k, hk, rfl⟩))).trans e, r⟩
  tk1 := h.tk1
  upd := h.upd.trans (hu.mono fun k _ hk => (hY k hk).elim .inr .inl)
  own := h.own
  le := h.le
  new := h.new
theorem Rel.drew (h : Rel B I st W) : Rel B I st W.drew :=
  h.step (Y := fun _ => False) ⟨rfl, rfl, rfl, Nat.le_refl _, fun _ _ _ => rfl⟩ (fun _ e => e.elim) (fun _ _ e => e) (fun _ _ _ e => e)
theorem upd_alloc (w : World) (o : Obj) (X : Nat → Prop) : Upd X w (w.alloc o) := ⟨rfl, rfl, rfl, by simp, fun k hk _ => Below.heap_alloc _ _ _ hk⟩
theorem heap_new (w : World) (o : Obj) : (w.alloc o).heap[w.heap.size]? = some o := World.alloc_heap_new w o
theorem Rel.alloc_any (h : Rel B I st W) (o : Obj) : Rel B I st (W.alloc o) :=
  h.step (Y := fun _ => False) (upd_alloc _ _ _) (fun _ e => e.elim) (fun _ _ e => e) (fun _ _ _ e => e)
/-- A new object. -/
theorem Rel.ins_cells (h : Rel B I st W) {b : Nat} {cs : List AV} {vs : Array Value} {ty : TypeId} (hb : W.heap[b]? = some (.cells vs ty (0, 0))) (hr : RepL I cs vs.toList)
    (hI : ∀ o, I b o = none) (hl : ∀ k, st.live k = true → k.b ≠ b) (ho : B.X b ∨ B.W.heap.size ≤ b) : Rel B I (st.ins b (.cells cs)) W where
  cells b' cs' hb' := by
    simp only [St.ins] at hb'
    split at hb'
    · rename_i e; subst e; cases hb'; exact ⟨vs, ty, hb, hr⟩
    · exact h.cells b' cs' hb'
  raw b' o hb' := by
    simp only [St.ins] at hb'
    split at hb'
    · cases hb'
    · exact h.raw b' o hb'
  imm := h.imm
  sep b' x hb' := by
    simp only [St.ins] at hb'
    split at hb'
    · rename_i e; subst e; exact hI
    · exact h.sep b' x hb'
  tk k hk := by
    obtain ⟨arr, ty', e, r1, r2, r3⟩ := h.tk k hk
    exact ⟨arr, ty', e, r1, r2, by simp only [St.ins]; rw [if_neg (hl k hk)]; exact r3⟩
  tk1 := h.tk1
  upd := h.upd
  own b' hb' := by
    rcases hb' with ⟨o, hb'⟩ | ⟨k, hk, e⟩
    · simp only [St.ins] at hb'
      split at hb'
      · rename_i e; subst e; exact ho
      · exact h.own b' (.inl ⟨o, hb'⟩)
    · exact h.own b' (.inr ⟨k, hk, e⟩)
  le := h.le
  new := h.new
theorem Rel.ins_raw (h : Rel B I st W) {b : Nat} {x : Obj} (hb : W.heap[b]? = some x)
    (hI : ∀ o, I b o = none) (hl : ∀ k, st.live k = true → k.b ≠ b) (ho : B.X b ∨ B.W.heap.size ≤ b) : Rel B I (st.ins b (.raw x)) W where
  cells b' cs' hb' := by
    simp only [St.ins] at hb'
    split at hb'
    · cases hb'
    · exact h.cells b' cs' hb'
  raw b' o hb' := by
    simp only [St.ins] at hb'
    split at hb'
    · rename_i e; subst e; cases hb'; exact hb
    · exact h.raw b' o hb'
  imm := h.imm
  sep b' x hb' := by
    simp only [St.ins] at hb'
    split at hb'
    · rename_i e; subst e; exact hI
    · exact h.sep b' x hb'
  tk k hk := by
    obtain ⟨arr, ty', e, r1, r2, r3⟩ := h.tk k hk
    exact ⟨arr, ty', e, r1, r2, by simp only [St.ins]; rw [if_neg (hl k hk)]; exact r3⟩
  tk1 := h.tk1
  upd := h.upd
  own b' hb' := by
    rcases hb' with ⟨o, hb'⟩ | ⟨k, hk, e⟩
    · simp only [St.ins] at hb'
      split at hb'
      · rename_i e; subst e; exact ho
      · exact h.own b' (.inl ⟨o, hb'⟩)
    · exact h.own b' (.inr ⟨k, hk, e⟩)
  le := h.le
  new := h.new
theorem Rel.alloc (h : Rel B I st W) {cs : List AV} {vs : Array Value} (ty : TypeId) (hr : RepL I cs vs.toList) :
    st.objs W.heap.size = none ∧ Rel B I (st.ins W.heap.size (.cells cs)) (W.alloc (.cells vs ty)) :=
  ⟨h.fresh (Nat.le_refl _), (h.alloc_any _).ins_cells (heap_new _ _) hr (h.immNone (Nat.le_refl _)) (fun k hk e => by have := h.live_lt hk; omega) (.inr h.upd.size)⟩
/-- Less is known. -/
structure St.le (s t : St) : Prop where
  objs : ∀ b o, s.objs b = some o → t.objs b = some o
  live : ∀ k, s.live k = true → t.live k = true
theorem Rel.weaken (h : Rel B I st W) {s : St} (hs : s.le st) : Rel B I s W where
  cells b cs hb := h.cells b cs (hs.objs _ _ hb)
  raw b o hb := h.raw b o (hs.objs _ _ hb)
  imm := h.imm
  sep b x hb := h.sep b x (hs.objs _ _ hb)
  tk k hk := by
    obtain ⟨arr, ty, e, r1, r2, r3⟩ := h.tk k (hs.live k hk)
    refine ⟨arr, ty, e, r1, r2, ?_⟩
    cases ho : s.objs k.b with
    | none => rfl
    | some o => rw [hs.objs _ _ ho] at r3; cases r3
  tk1 k j hk hj := h.tk1 k j (hs.live _ hk) (hs.live _ hj)
  upd := h.upd
  own b hb := h.own b (hb.imp (fun ⟨o, e⟩ => ⟨o, hs.objs _ _ e⟩) (fun ⟨k, e, e'⟩ => ⟨k, hs.live _ e, e'⟩))
  le := h.le
  new := h.new
theorem setCells_same (b : Nat) : ∀ (us : List Value) (o : Nat) (w : World), (w.setCells b o us).os = w.os ∧ (w.setCells b o us).tape = w.tape ∧ (w.setCells b o us).output = w.output ∧ (w.setCells b o us).heap.size = w.heap.size ∧
    ∀ k, k ≠ b → (w.setCells b o us).heap[k]? = w.heap[k]?
  | [], _, _ => ⟨rfl, rfl, rfl, rfl, fun _ _ => rfl⟩
  | v :: r, o, w => by
    obtain ⟨h1, h2, h3, h4, h5⟩ := setCells_same b r (o + 1) (w.setCell ⟨b, o, none⟩ v)
    simp only [World.setCells]
    exact ⟨h1, h2, h3, by rw [h4]; simp [World.setCell], fun k hk => by rw [h5 k hk]; exact Below.heap_setCell w _ v k hk⟩
theorem setCells_at (b : Nat) : ∀ (us : List Value) (o : Nat) (w : World) (vs : Array Value) (ty : TypeId) (fz : Nat × Nat), w.heap[b]? = some (.cells vs ty fz) → o + us.length ≤ vs.size →
    (w.setCells b o us).heap[b]? = some (.cells (vs.toList.take o ++ us ++ vs.toList.drop (o + us.length)).toArray ty fz)
  | [], o, w, vs, ty, fz, h, _ => by simpa [World.setCells] using h
  | v :: r, o, w, vs, ty, fz, h, hl => by
    simp only [World.setCells]
    have h1 : (w.setCell ⟨b, o, none⟩ v).heap[b]? = some (.cells (vs.setIfInBounds o v) ty fz) := by
      simp [World.setCell, Array.getElem?_modify, h]
    rw [setCells_at b r (o + 1) _ _ ty fz h1 (by simp at hl ⊢; omega)]
    simp at hl
    have hlt : o < vs.toList.length := by simp; omega
    have e1 : (vs.toList.set o v).take (o + 1) = vs.toList.take o ++ [v] := by
      rw [List.take_add_one, List.take_set_of_le (Nat.le_refl _), List.getElem?_set_self hlt]; rfl
    have e2 : (vs.toList.set o v).drop (o + 1 + r.length) = vs.toList.drop (o + (v :: r).length) := by
      rw [List.drop_set_of_lt (by omega)]; congr 1; simp; omega
    simp only [Array.toList_setIfInBounds, e1, e2]
    simp
/-- A store into an object. -/
theorem Rel.store (h : Rel B I st W) {b : Nat} {cs : List AV} (hb : st.objs b = some (.cells cs)) {off : Nat} {ys : List AV} {us : List Value} (hy : RepL I ys us) (hle : off + ys.length ≤ cs.length) :
    Rel B I (st.ins b (.cells (cs.take off ++ ys ++ cs.drop (off + ys.length)))) (W.setCells b off us) := by
  obtain ⟨vs, ty, hv, hr⟩ := h.cells b cs hb
  have hlu := hy.length
  have hlv := hr.length
  have hW := setCells_at b us off W vs ty (0, 0) hv (by simp at hlv; omega)
  obtain ⟨s1, s2, s3, s4, s5⟩ := setCells_same b us off W
  have hI := h.sep b _ hb
  have hlive : ∀ k, st.live k = true → k.b ≠ b := fun k hk e => by
    obtain ⟨_, _, _, _, _, r3⟩ := h.tk k hk
    rw [e, hb] at r3; cases r3
  have hrel : RepL I (cs.take off ++ ys ++ cs.drop (off + ys.length)) (vs.toList.take off ++ us ++ vs.toList.drop (off + us.length)) := by
    rw [hlu]; exact ((hr.take off).append hy).append (hr.drop _)
  exact {
    cells := fun b' cs' hb' => by
      simp only [St.ins] at hb'
      split at hb'
      · rename_i e; subst e; cases hb'; exact ⟨_, ty, hW, by simpa using hrel⟩
      · rename_i e; obtain ⟨vs', ty', e', r⟩ := h.cells b' cs' hb'; exact ⟨vs', ty', (s5 b' e).trans e', r⟩
    raw := fun b' o hb' => by
      simp only [St.ins] at hb'
      split at hb'
      · cases hb'
      · rename_i e; exact (s5 b' e).trans (h.raw b' o hb')
    imm := fun b' o v hv' => by
      have := h.imm b' o v hv'
      have hne : b' ≠ b := fun e => by rw [e, hI] at hv'; cases hv'
      unfold World.cell? at this ⊢
      rw [s5 b' hne]; exact this
    sep := fun b' x hb' => by
      simp only [St.ins] at hb'
      split at hb'
      · rename_i e; subst e; exact hI
      · exact h.sep b' x hb'
    tk := fun k hk => by
      obtain ⟨arr, ty', e, r1, r2, r3⟩ := h.tk k hk
      exact ⟨arr, ty', (s5 _ (hlive k hk)).trans e, r1, r2, by simp only [St.ins]; rw [if_neg (hlive k hk)]; exact r3⟩
    tk1 := h.tk1
    upd := h.upd.trans ⟨s1, s2, s3, by omega, fun k _ hk => s5 k (fun e => hk (by subst e; exact (h.own k (.inl ⟨_, hb⟩)).elim .inl (fun h' => .inr h')))⟩
    own := fun b' hb' => by
      rcases hb' with ⟨o, hb'⟩ | ⟨k, hk, e⟩
      · simp only [St.ins] at hb'
        split at hb'
        · rename_i e; subst e; exact h.own b' (.inl ⟨_, hb⟩)
        · exact h.own b' (.inl ⟨o, hb'⟩)
      · exact h.own b' (.inr ⟨k, hk, e⟩)
    le := h.le
    new := h.new }
/-- New memory that is never written again. -/
def Im.row (I : Im) (b lo hi : Nat) (vs : Array Value) : Im := fun b' o => if b' = b ∧ lo ≤ o ∧ o < hi then vs[o]? else I b' o
theorem Rel.know (h : Rel B I st W) {b lo hi : Nat} {vs : Array Value} {ty : TypeId} {fz : Nat × Nat} (hb : W.heap[b]? = some (.cells vs ty fz)) (hno : st.objs b = none) (hI : ∀ o, lo ≤ o → o < hi → I b o = none)
    (ht : ∀ k, st.live k = true → k.b = b → hi ≤ k.fr) (ho : B.X b ∨ B.W.heap.size ≤ b) : I.le (I.row b lo hi vs) ∧ Rel B (I.row b lo hi vs) st W := by
  have hle : I.le (I.row b lo hi vs) := fun b' o v hv => by
    unfold Im.row
    rw [if_neg (fun e => by obtain ⟨e1, e2, e3⟩ := e; subst e1; rw [hI o e2 e3] at hv; cases hv)]
    exact hv
  refine ⟨hle, ?_⟩
  exact {
    cells := fun b' cs hb' => by obtain ⟨vs', ty', e, r⟩ := h.cells b' cs hb'; exact ⟨vs', ty', e, r.mono hle⟩
    raw := h.raw
    imm := fun b' o v hv => by
      unfold Im.row at hv
      split at hv
      · rename_i e; obtain ⟨rfl, _, _⟩ := e; rw [cell_of hb]; exact hv
      · exact h.imm b' o v hv
    sep := fun b' x hx o => by
      unfold Im.row
      rw [if_neg (fun e => by obtain ⟨e1, _⟩ := e; subst e1; rw [hno] at hx; cases hx)]
      exact h.sep b' x hx o
    tk := fun k hk => by
      obtain ⟨arr, ty', e, r1, r2, r3⟩ := h.tk k hk
      refine ⟨arr, ty', e, r1, fun o ho' => ?_, r3⟩
      unfold Im.row
      rw [if_neg (fun e' => by obtain ⟨e1, e2, e3⟩ := e'; have := ht k hk e1; omega)]
      exact r2 o ho'
    tk1 := h.tk1
    upd := h.upd
    own := h.own
    le := h.le.trans hle
    new := fun b' o hne => by
      unfold Im.row at hne
      split at hne
      · rename_i e; exact .inr (e.1 ▸ ho)
      · exact h.new b' o hne }
theorem Rel.newRow (h : Rel B I st W) (vs : Array Value) (ty : TypeId) (n : Nat) : I.le (I.row W.heap.size 0 n vs) ∧ Rel B (I.row W.heap.size 0 n vs) st (W.alloc (.cells vs ty)) :=
  (h.alloc_any _).know (heap_new _ _) (h.fresh (Nat.le_refl _)) (fun o _ _ => h.immNone (Nat.le_refl _) o) (fun k hk e => by have := h.live_lt hk; omega) (.inr h.upd.size)
theorem Rel.kill (h : Rel B I st W) (t : Tok) : Rel B I (st.kill t) W :=
  h.weaken (by
    cases t with
    | no => exact ⟨fun _ _ e => e, fun _ e => e⟩
    | full => exact ⟨fun _ _ e => e, fun _ e => e⟩
    | own j => exact ⟨fun _ _ e => e, fun k hk => by simp only [St.kill] at hk; split at hk; cases hk; exact hk⟩)
theorem Rel.addTk (h : Rel B I st W) {k : Tk} {arr : Array Value} {ty : TypeId} (hb : W.heap[k.b]? = some (.cells arr ty (0, 0))) (hen : k.en ≤ arr.size) (hI : ∀ o, k.fr ≤ o → I k.b o = none) (hno : st.objs k.b = none)
    (hone : ∀ j, st.live j = true → j.b ≠ k.b) (ho : B.X k.b ∨ B.W.heap.size ≤ k.b) : Rel B I (st.add (.own k)) W where
  cells := h.cells
  raw := h.raw
  imm := h.imm
  sep := h.sep
  tk j hj := by
    simp only [St.add] at hj
    split at hj
    · rename_i e; subst e; exact ⟨arr, ty, hb, hen, hI, hno⟩
    · exact h.tk j hj
  tk1 i j hi hj e := by
    simp only [St.add] at hi hj
    split at hi <;> split at hj
    · simp_all
    · rename_i e1 _; subst e1; exact absurd e.symm (hone j hj)
    · rename_i _ e1; subst e1; exact absurd e (hone i hi)
    · exact h.tk1 i j hi hj e
  upd := h.upd
  own b hb' := by
    rcases hb' with ⟨o, hb'⟩ | ⟨j, hj, e⟩
    · exact h.own b (.inl ⟨o, hb'⟩)
    · simp only [St.add] at hj
      split at hj
      · rename_i e1; subst e1; subst e; exact ho
      · exact h.own b (.inr ⟨j, hj, e⟩)
  le := h.le
  new := h.new
end
end Go.Proofs.Ytddbnncimggogaa.V
end
section
set_option linter.unusedSimpArgs false
set_option linter.unusedVariables false
/- Rows made, and appended to. -/
namespace Go.Proofs.Ytddbnncimggogaa.V
open Go Go.RowKit
variable {P : Program}
theorem isCell_one {I : Im} {a : AV} {v : Value} (h : Rep I a v) (hc : a.isCell = true) : v.oneCell' = true := by
  cases a <;> simp only [Rep] at h <;> simp only [AV.isCell] at hc <;> first
    | (cases hc; done)
    | (subst h; rfl)
    | (obtain ⟨_, _, _, rfl, _⟩ := h; rfl)
    | (obtain ⟨_, _, rfl, _⟩ := h; rfl)
    | (obtain ⟨rfl, _⟩ := h; rfl)
theorem all_one {I : Im} : ∀ {aas : List AV} {vs : List Value}, RepL I aas vs → aas.all AV.isCell = true → ∀ v ∈ vs, v.oneCell' = true
  | [], [], _, _ => by simp
  | a :: aas, v :: vs, r, h => by
    simp only [List.all_cons, Bool.and_eq_true] at h
    intro u hu
    rcases List.mem_cons.1 hu with rfl | hu
    · exact isCell_one r.1 h.1
    · exact all_one r.2 h.2 u hu
  | [], _ :: _, r, _ => r.elim
  | _ :: _, [], r, _ => r.elim
/-- The cells of a row that lies. -/
theorem RepR.flat {I : Im} {sz : Nat} : ∀ {xs : List AV} {b o : Nat}, RepR I sz xs b o → ∃ news : List Value, news.length = xs.length * sz ∧ (∀ j u, news[j]? = some u → I b (o + j) = some u) ∧
    (∀ (J : Im) (b' o' : Nat), I.le J → (∀ j u, news[j]? = some u → J b' (o' + j) = some u) → RepR J sz xs b' o') ∧ ((∀ x ∈ xs, 0 < x.cells.length ∧ x.cells.all AV.isCell = true) → ∀ v ∈ news, v.oneCell' = true)
  | [], _, _, _ => ⟨[], by simp, by simp, fun _ _ _ _ _ => by simp [RepR], by simp⟩
  | x :: xs, b, o, r => by
    simp only [RepR] at r
    obtain ⟨⟨u, h1, h2, h3⟩, h4⟩ := r
    obtain ⟨news, n1, n2, n3, n4⟩ := RepR.flat h4
    have hl : u.cells.toList.length = sz := by simpa using h2
    refine ⟨u.cells.toList ++ news, by simp [n1, h2, Nat.add_mul]; omega, fun j v hj => ?_, fun J b' o' hJ hm => ?_, fun hx v hv => ?_⟩
    · rw [List.getElem?_append] at hj
      split at hj
      · exact h3 j v (by simpa using hj)
      · rename_i hnl
        have := n2 _ v hj
        rwa [show o + sz + (j - u.cells.toList.length) = o + j by omega] at this
    · simp only [RepR]
      refine ⟨⟨u, h1.mono hJ, h2, fun j v hj => hm j v ?_⟩, n3 J b' (o' + sz) hJ (fun j v hj => ?_)⟩
      · rw [List.getElem?_append_left (by simpa using (Array.getElem?_eq_some_iff.1 hj).1)]; simpa using hj
      · have := hm (sz + j) v (by rw [List.getElem?_append_right (by omega)]; rw [hl]; simpa using hj)
        rwa [show o' + (sz + j) = o' + sz + j by omega] at this
    · rcases List.mem_append.1 hv with hv | hv
      · exact all_one (h1.cells' (hx x (by simp)).1) (hx x (by simp)).2 v hv
      · exact n4 (fun y hy => hx y (by simp [hy])) v hv
/-- Cells that lie as elements. -/
theorem RepR.of_cells {J : Im} {sz : Nat} : ∀ {xs : List AV} {us : List Value} {b o : Nat}, RepL J xs us → (∀ u ∈ us, u.cells.size = sz) → (∀ j v, ((us.map (·.cells.toList)).flatten)[j]? = some v → J b (o + j) = some v) → RepR J sz xs b o
  | [], [], _, _, _, _, _ => by simp [RepR]
  | x :: xs, u :: us, b, o, r, hs, hm => by
    simp only [RepR]
    have hu := hs u (by simp)
    refine ⟨⟨u, r.1, hu, fun j v hj => hm j v ?_⟩, RepR.of_cells r.2 (fun w hw => hs w (by simp [hw])) (fun j v hj => ?_)⟩
    · simp only [List.map_cons, List.flatten_cons]
      rw [List.getElem?_append_left (by simpa using (Array.getElem?_eq_some_iff.1 hj).1)]; simpa using hj
    · have := hm (sz + j) v (by simp only [List.map_cons, List.flatten_cons]; rw [List.getElem?_append_right (by simp; omega)]; simpa [hu] using hj)
      rwa [show o + (sz + j) = o + sz + j by omega] at this
  | [], _ :: _, _, _, r, _, _ => r.elim
  | _ :: _, [], _, _, r, _, _ => r.elim
def okEl (sz : Nat) (x : AV) : Bool := x.cells.length == sz && x.cells.all AV.isCell
def St.fresh (st : St) (sz : Nat) (t : Tok) : Prop := match t with | .no => False | .full => True | .own k => st.live k = false ∧ k.sz = sz
theorem St.has_add {st : St} {sz : Nat} {t : Tok} (h : st.fresh sz t) : (st.add t).has sz t = true := by
  cases t with
  | no => exact h.elim
  | full => rfl
  | own k => simp [St.has, St.add, h.2]
theorem St.add_kill {st : St} {sz : Nat} {t : Tok} (h : st.has sz t = true) : (st.kill t).add t = st := by
  cases t with
  | no => rfl
  | full => rfl
  | own k =>
    simp only [St.has, Bool.and_eq_true] at h
    simp only [St.kill, St.add]
    congr 1
    funext j
    split
    · rename_i e; subst e; exact h.1.symm
    · rfl
theorem grownCap_ge (w : World) (need old : Nat) (e : TypeId) : need ≤ grownCap w need old e := by
  simp only [grownCap, Question.cut]; omega
section
variable {B : Base} {I : Im} {st : St} {W : World}
theorem append_ok (h : Rel B I st W) {t ty e : TypeId} {i : TypeInfo} {z : Value} (ht : P.underlying t = some (.slice e)) (hi : P.info? e = some i) (hz : i.zero = some z) (hzs : z.cells.size = i.size) (hp : 0 < i.size)
    {xs ys : List AV} {tk ty2 : Tok} {u w : Value} (hu : Rep I (.sl xs tk) u) (hw : Rep I (.sl ys ty2) w) (hhas : st.has i.size tk = true) (hxs : ∀ x ∈ xs, x.cells.length = i.size) (hys : ∀ y ∈ ys, okEl i.size y = true)
    (hlen : xs.length + ys.length ≤ 1000000000000) (hfit : (xs.length + ys.length) * i.bytes ≤ 140737488355328) :
    ∃ t' v W' J, (Builtin.append_ #[t, t] ty #[u, w]).run P W = .ok v W' ∧ I.le J ∧ (st.kill tk).fresh i.size t' ∧ Rel B J ((st.kill tk).add t') W' ∧ Rep J (.sl (xs ++ ys) t') v := by
  simp only [Rep] at hu hw
  obtain ⟨a, c, sz, rfl, hc, hsz, hR, hnone, hspot, htok⟩ := hu
  obtain ⟨a2, c2, sz2, rfl, hc2, hsz2, hR2, hnone2, hspot2, _⟩ := hw
  -- what is appended
  have hys' : ∀ y ∈ ys, 0 < y.cells.length ∧ y.cells.all AV.isCell = true := fun y hy => by
    have := hys y hy; simp only [okEl, Bool.and_eq_true, beq_iff_eq] at this; exact ⟨by omega, this.2⟩
  obtain ⟨news, hnl, hnm, hnr, hn1⟩ : ∃ news : List Value, news.length = ys.length * i.size ∧ (∀ ad, a2 = some ad → ∀ j v, news[j]? = some v → W.cell? (ad.add j) = some v) ∧
      (∀ (J : Im) (b' o' : Nat), I.le J → (∀ j v, news[j]? = some v → J b' (o' + j) = some v) → RepR J i.size ys b' o') ∧ (∀ v ∈ news, v.oneCell' = true) := by
    rcases hR2 with rfl | ⟨b, o, rfl, hR2⟩
    · exact ⟨[], by simp, by simp, fun _ _ _ _ _ => by simp [RepR], by simp⟩
    · obtain ⟨news, n1, n2, n3, n4⟩ := hR2.flat
      cases ys with
      | nil => exact ⟨[], by simp, by simp, fun _ _ _ _ _ => by simp [RepR], by simp⟩
      | cons y ys =>
        have : sz2 = i.size := by
          simp only [RepR] at hR2
          obtain ⟨⟨u, h1, h2, _⟩, _⟩ := hR2
          have hy := hys y (by simp)
          simp only [okEl, Bool.and_eq_true, beq_iff_eq] at hy
          have := (h1.cells' (by omega)).length
          simp at this; omega
        subst this
        exact ⟨news, n1, fun ad e j v hj => by cases e; rw [addr_add]; exact h.imm _ _ _ (n2 j v hj), n3, n4 hys'⟩
  have hsrc : Src P i.size t (.slice a2 ys.length c2) ys.length news W := by
    cases a2 with
    | none =>
      have : ys.length = 0 := by have := hnone2 rfl; omega
      have hn0 : news = [] := by cases news; rfl; simp [this] at hnl
      rw [this, hn0]; exact Src.ofNil W ht c2
    | some ad => exact Src.ofSlice W ht ad _ c2 news hnl (hnm ad rfl) hn1
  by_cases hroom : xs.length + ys.length ≤ c
  · -- there is room
    by_cases hy0 : ys = []
    · subst hy0
      have hn0 : news = [] := by cases news; rfl; simp at hnl
      subst hn0
      refine ⟨tk, _, W, I, run_append_nothing W t t ty e i ht hi a xs.length c hc _ hsrc, Im.le.refl _, ?_, by rw [St.add_kill hhas]; exact h, ?_⟩
      · cases tk with
        | no => simp [St.has] at hhas
        | full => trivial
        | own k => simp only [St.has, Bool.and_eq_true, beq_iff_eq] at hhas; exact ⟨by simp [St.kill], hhas.2⟩
      · simp only [Rep, List.append_nil]; exact ⟨a, c, sz, rfl, hc, hsz, hR, hnone, hspot, htok⟩
    · cases tk with
      | no => simp [St.has] at hhas
      | full =>
        simp only [tokOk] at htok
        have : ys.length = 0 := by omega
        exact absurd (List.length_eq_zero_iff.1 this) hy0
      | own k =>
        simp only [St.has, Bool.and_eq_true, beq_iff_eq] at hhas
        obtain ⟨hlive, hksz⟩ := hhas
        simp only [tokOk] at htok
        obtain ⟨hs, o, rfl, hfr, hen⟩ := htok
        have hsz' : sz = i.size := by omega
        subst hsz'
        obtain ⟨arr, aty, hb, hle, hfree, hno⟩ := h.tk k hlive
        have hmul : xs.length * i.size + ys.length * i.size ≤ c * i.size := by rw [← Nat.add_mul]; exact Nat.mul_le_mul_right _ hroom
        have hcell : ∀ j, j < news.length → (W.cell? ⟨k.b, o + xs.length * i.size + j, none⟩).isSome = true := fun j hj => by
          rw [cell_of hb]
          have : o + xs.length * i.size + j < arr.size := by omega
          simp [this]
        have hrun := run_append_room_src (P := P) W t t ty e i ht hi k.b o xs.length c _ ys.length news hsrc hroom hcell (fun j hj => by simp [World.frozen?, hb])
        rw [← hfr] at hrun
        have hat := setCells_at k.b news k.fr W arr aty (0, 0) hb (by omega)
        obtain ⟨s1, s2, s3, s4, s5⟩ := setCells_same k.b news k.fr W
        obtain ⟨arr', harr'⟩ : ∃ arr', arr' = (arr.toList.take k.fr ++ news ++ arr.toList.drop (k.fr + news.length)).toArray := ⟨_, rfl⟩
        rw [← harr'] at hat
        have hsize : arr'.size = arr.size := by rw [harr']; simp; omega
        have hlow : ∀ j, j < k.fr → arr'[j]? = arr[j]? := fun j hj => by
          rw [harr']
          simp only [List.getElem?_toArray]
          rw [List.append_assoc, List.getElem?_append_left (by simp; omega), List.getElem?_take_of_lt hj]; simp
        have hnew : ∀ j v, news[j]? = some v → arr'[k.fr + j]? = some v := fun j v hj => by
          have hjl := (List.getElem?_eq_some_iff.1 hj).1
          rw [harr']
          simp only [List.getElem?_toArray]
          rw [List.append_assoc, List.getElem?_append_right (by simp; omega), List.getElem?_append_left (by simp; omega)]
          rw [show k.fr + j - (arr.toList.take k.fr).length = j by simp; omega]; exact hj
        have hk := h.kill (.own k)
        have hother : ∀ j, (st.kill (.own k)).live j = true → j.b ≠ k.b := fun j hj e' => by
          simp only [St.kill] at hj
          split at hj
          · cases hj
          · rename_i hne; exact hne (h.tk1 j k hj hlive e')
        have hown : B.X k.b ∨ B.W.heap.size ≤ k.b := h.own k.b (.inr ⟨k, hlive, rfl⟩)
        have hW : Rel B I (st.kill (.own k)) (W.setCells k.b k.fr news) := {
          cells := fun b' cs hb' => by
            obtain ⟨vs, ty', e', r⟩ := hk.cells b' cs hb'
            refine ⟨vs, ty', (s5 b' (fun e2 => ?_)).trans e', r⟩
            subst e2; have hb2 : st.objs k.b = some (.cells cs) := hb'; rw [hno] at hb2; cases hb2
          raw := fun b' x hb' => (s5 b' (fun e2 => by subst e2; have hb2 : st.objs k.b = some (.raw x) := hb'; rw [hno] at hb2; cases hb2)).trans (hk.raw b' x hb')
          imm := fun b' o' v hv => by
            have h0 := hk.imm b' o' v hv
            by_cases e2 : b' = k.b
            · subst e2
              have ho' : o' < k.fr := by
                rcases Nat.lt_or_ge o' k.fr with h' | h'
                · exact h'
                · rw [hfree o' h'] at hv; cases hv
              rw [cell_of hat, hlow _ ho', ← cell_of hb]; exact h0
            · unfold World.cell? at h0 ⊢
              rw [s5 b' e2]; exact h0
          sep := hk.sep
          tk := fun j hj => by
            obtain ⟨arr2, ty2, e2, r⟩ := hk.tk j hj
            exact ⟨arr2, ty2, (s5 _ (hother j hj)).trans e2, r⟩
          tk1 := hk.tk1
          upd := hk.upd.trans ⟨s1, s2, s3, by omega, fun j _ hj => s5 j (fun e' => hj (by subst e'; exact hown))⟩
          own := hk.own
          le := hk.le
          new := hk.new }
        obtain ⟨hle2, hrel⟩ := hW.know (lo := k.fr) (hi := k.fr + news.length) hat hno (fun o' h1 _ => hfree o' h1) (fun j hj e' => absurd e' (hother j hj)) hown
        refine ⟨.own ⟨k.b, k.fr + news.length, k.en, i.size⟩, _, _, _, hrun, hle2, ⟨?_, rfl⟩, ?_, ?_⟩
        · cases hl2 : (st.kill (.own k)).live ⟨k.b, k.fr + news.length, k.en, i.size⟩ with
          | false => rfl
          | true => exact (hother _ hl2 rfl).elim
        · refine hrel.addTk hat (by simp only []; omega) (fun o' ho' => ?_) hno hother hown
          simp only at ho'
          unfold Im.row
          rw [if_neg (fun e' => by omega)]
          exact hfree o' (by omega)
        · simp only [Rep]
          refine ⟨_, c, i.size, by rw [List.length_append], by simp; omega, hsz, .inr ⟨k.b, o, rfl, ?_⟩, by simp, trivial, rfl, o, rfl, ?_, hen⟩
          · refine RepR.append ?_ (hnr _ _ _ hle2 (fun j v hj => ?_))
            · rcases hR with rfl | ⟨b1, o1, e1, hR⟩
              · simp [RepR]
              · simp only [Option.some.injEq, Addr.mk.injEq] at e1
                obtain ⟨rfl, rfl, _⟩ := e1
                exact hR.mono hle2
            · unfold Im.row
              have hjl := (List.getElem?_eq_some_iff.1 hj).1
              rw [if_pos ⟨rfl, by omega, by omega⟩, ← hfr]; exact hnew j v hj
          · simp only [List.length_append, Nat.add_mul]; omega
  · -- there is none
    have hg : c < xs.length + ys.length := by omega
    obtain ⟨olds, hol, hom, hor⟩ : ∃ olds : List Value, olds.length = xs.length * i.size ∧ (∀ w' : World, w'.heap = W.heap → (Builtin.firstCells i.size xs.length (.slice a xs.length c)).run P w' = .ok olds.toArray w') ∧
        (∀ (J : Im) (b' o' : Nat), I.le J → (∀ j v, olds[j]? = some v → J b' (o' + j) = some v) → RepR J i.size xs b' o') := by
      cases xs with
      | nil =>
        refine ⟨[], by simp, fun w' _ => ?_, fun _ _ _ _ _ => by simp [RepR]⟩
        cases a with
        | none => exact run_firstCells_none w' _ _ _ _
        | some ad => exact run_firstCells_some w' i.size 0 ad 0 c [] (by simp) (by simp)
      | cons x xs =>
        rcases hR with hx | ⟨b, o, rfl, hR⟩
        · cases hx
        · have : sz = i.size := by
            simp only [RepR] at hR
            obtain ⟨⟨u, h1, h2, _⟩, _⟩ := hR
            have hx := hxs x (by simp)
            have := (h1.cells' (by omega)).length
            simp at this; omega
          subst this
          obtain ⟨olds, n1, n2, n3, _⟩ := hR.flat
          refine ⟨olds, n1, fun w' hw' => run_firstCells_some w' i.size _ _ _ c olds n1 (fun j v hj => ?_), n3⟩
          have := h.imm _ _ _ (n2 j v hj)
          rw [addr_add]; unfold World.cell? at this ⊢; rw [hw']; exact this
    have hgrow := run_append_grow_src (P := P) W t t ty e i z ht hi hz a xs.length c olds (hom W.drew rfl) _ ys.length news hsrc hg (by omega) (growslice_fits hg hfit)
    obtain ⟨cap, hcap⟩ : ∃ cap, cap = grownCap W (xs.length + ys.length) c e := ⟨_, rfl⟩
    have hcapge : xs.length + ys.length ≤ cap := hcap ▸ grownCap_ge _ _ _ _
    obtain ⟨arr, harr⟩ : ∃ arr, arr = (olds ++ news).toArray ++ Builtin.zeroCells z.cells (cap - (xs.length + ys.length)) := ⟨_, rfl⟩
    rw [← hcap, ← harr] at hgrow
    have hk := (h.kill tk).drew
    obtain ⟨hle2, hrel⟩ := hk.newRow arr e ((xs.length + ys.length) * i.size)
    have hlt : ∀ j v, (olds ++ news)[j]? = some v → arr[j]? = some v := fun j v hj => by
      have hjl := (List.getElem?_eq_some_iff.1 hj).1
      rw [harr, Array.getElem?_append_left (by simpa using hjl)]; simpa using hj
    have hkn : ∀ j v, (olds ++ news)[j]? = some v → I.row W.drew.heap.size 0 ((xs.length + ys.length) * i.size) arr W.drew.heap.size j = some v := fun j v hj => by
      have hjl := (List.getElem?_eq_some_iff.1 hj).1
      unfold Im.row
      rw [if_pos ⟨rfl, Nat.zero_le _, by simp [Nat.add_mul] at hjl ⊢; omega⟩]
      exact hlt j v hj
    have hasz : cap * i.size ≤ arr.size := by
      rw [harr]; simp [size_zeroCells, hzs, hol, hnl, Nat.sub_mul, Nat.add_mul]
      have : (xs.length + ys.length) * i.size ≤ cap * i.size := Nat.mul_le_mul_right _ hcapge
      rw [Nat.add_mul] at this; omega
    refine ⟨.own ⟨W.drew.heap.size, (xs.length + ys.length) * i.size, cap * i.size, i.size⟩, _, _, _, hgrow, hle2, ⟨?_, rfl⟩, ?_, ?_⟩
    · exact hk.fresh_live (Nat.le_refl _)
    · refine hrel.addTk (heap_new _ _) hasz (fun o' ho' => ?_) (hk.fresh (Nat.le_refl _)) (fun j hj e' => by have := hk.live_lt hj; simp only at e'; omega) (.inr hk.upd.size)
      simp only at ho'
      unfold Im.row
      rw [if_neg (fun e' => by omega)]
      exact hk.immNone (Nat.le_refl _) o'
    · simp only [Rep]
      refine ⟨_, cap, i.size, by rw [List.length_append], by rw [List.length_append]; exact hcapge, hp, .inr ⟨W.heap.size, 0, rfl, ?_⟩, by simp, trivial, rfl, 0, rfl, by simp, by simp⟩
      refine RepR.append (hor _ _ _ hle2 (fun j v hj => ?_)) (hnr _ _ _ hle2 (fun j v hj => ?_))
      · rw [Nat.zero_add]; exact hkn j v (by rw [List.getElem?_append_left (List.getElem?_eq_some_iff.1 hj).1]; exact hj)
      · have := hkn (olds.length + j) v (by rw [List.getElem?_append_right (by omega)]; simpa using hj)
        rw [Nat.zero_add, ← hol]; exact this
/-- The cells of a row that lies, one by one. -/
theorem RepR.flatL {I : Im} {sz : Nat} : ∀ {xs : List AV} {b o : Nat}, RepR I sz xs b o → (∀ x ∈ xs, 0 < x.cells.length) → ∃ news : List Value, news.length = xs.length * sz ∧ (∀ j u, news[j]? = some u → I b (o + j) = some u) ∧ RepL I (xs.flatMap AV.cells) news ∧
    ((∀ x ∈ xs, x.cells.all AV.isCell = true) → ∀ v ∈ news, v.oneCell' = true)
  | [], _, _, _, _ => ⟨[], by simp, by simp, by simp [RepL], by simp⟩
  | x :: xs, b, o, r, hp => by
    simp only [RepR] at r
    obtain ⟨⟨u, h1, h2, h3⟩, h4⟩ := r
    obtain ⟨news, n1, n2, n3, n4⟩ := RepR.flatL h4 (fun y hy => hp y (by simp [hy]))
    have hl : u.cells.toList.length = sz := by simpa using h2
    refine ⟨u.cells.toList ++ news, by simp [n1, h2, Nat.add_mul]; omega, fun j v hj => ?_, ?_, fun hx v hv => ?_⟩
    · rw [List.getElem?_append] at hj
      split at hj
      · exact h3 j v (by simpa using hj)
      · rename_i hnl
        have := n2 _ v hj
        rwa [show o + sz + (j - u.cells.toList.length) = o + j by omega] at this
    · simp only [List.flatMap_cons]
      exact (h1.cells' (hp x (by simp))).append n3
    · rcases List.mem_append.1 hv with hv | hv
      · exact all_one (h1.cells' (hp x (by simp))) (hx x (by simp)) v hv
      · exact n4 (fun y hy => hx y (by simp [hy])) v hv
theorem repL_undef (I : Im) : ∀ (vs : List Value), RepL I (List.replicate vs.length .undef) vs
  | [] => by simp [RepL]
  | _ :: vs => by simp only [List.length_cons, List.replicate_succ, RepL, Rep]; exact ⟨trivial, repL_undef I vs⟩
/-- What is appended: its cells. -/
theorem src_of (h : Rel B I st W) {t e : TypeId} {sz : Nat} (hp : 0 < sz) (ht : P.underlying t = some (.slice e)) {ys : List AV} {ty2 : Tok} {w : Value} (hw : Rep I (.sl ys ty2) w) (hys : ∀ y ∈ ys, okEl sz y = true) :
    ∃ news : List Value, news.length = ys.length * sz ∧ RepL I (ys.flatMap AV.cells) news ∧ Src P sz t w ys.length news W := by
  simp only [Rep] at hw
  obtain ⟨a2, c2, sz2, rfl, hc2, hsz2, hR2, hnone2, hspot2, _⟩ := hw
  have hys' : ∀ y ∈ ys, 0 < y.cells.length ∧ y.cells.all AV.isCell = true := fun y hy => by
    have := hys y hy; simp only [okEl, Bool.and_eq_true, beq_iff_eq] at this; exact ⟨by omega, this.2⟩
  cases ys with
  | nil =>
    refine ⟨[], by simp, by simp [RepL], ?_⟩
    cases a2 with
    | none => exact Src.ofNil W ht c2
    | some ad => exact Src.ofSlice W ht ad 0 c2 [] (by simp) (by simp) (by simp)
  | cons y ys =>
    rcases hR2 with h0 | ⟨b, o, rfl, hR2⟩
    · cases h0
    · have : sz2 = sz := by
        simp only [RepR] at hR2
        obtain ⟨⟨u, h1, h2, _⟩, _⟩ := hR2
        have hy := hys y (by simp)
        simp only [okEl, Bool.and_eq_true, beq_iff_eq] at hy
        have := (h1.cells' (by omega)).length
        simp at this; omega
      subst this
      obtain ⟨news, n1, n2, n3, n4⟩ := hR2.flatL (fun y hy => (hys' y hy).1)
      exact ⟨news, n1, n3, Src.ofSlice W ht ⟨b, o, none⟩ _ c2 news n1 (fun j v hj => by rw [addr_add]; exact h.imm _ _ _ (n2 j v hj)) (n4 (fun y hy => (hys' y hy).2))⟩
/-- An append that must grow: a new object. -/
theorem append_new (h : Rel B I st W) {t ty e : TypeId} {i : TypeInfo} {z : Value} (ht : P.underlying t = some (.slice e)) (hi : P.info? e = some i) (hz : i.zero = some z) (hzs : z.cells.size = i.size) (hp : 0 < i.size)
    {xs ys : List AV} {ty2 : Tok} {u w : Value} (hu : Rep I (.sl xs .full) u) (hw : Rep I (.sl ys ty2) w) (hne : ys ≠ []) (hxs : ∀ x ∈ xs, x.cells.length = i.size) (hys : ∀ y ∈ ys, okEl i.size y = true)
    (hlen : xs.length + ys.length ≤ 1000000000000) (hfit : (xs.length + ys.length) * i.bytes ≤ 140737488355328) :
    ∃ b c v W', (Builtin.append_ #[t, t] ty #[u, w]).run P W = .ok v W' ∧ st.objs b = none ∧ xs.length + ys.length ≤ c ∧
      Rel B I (st.ins b (.cells ((xs ++ ys).flatMap AV.cells ++ List.replicate ((c - (xs.length + ys.length)) * i.size) .undef))) W' ∧ Rep I (.osl b (xs.length + ys.length) c) v := by
  obtain ⟨news, hnl, hnr, hsrc⟩ := src_of h hp ht hw hys
  simp only [Rep] at hu
  obtain ⟨a, c, sz, rfl, hc, hsz, hR, hnone, hspot, htok⟩ := hu
  simp only [tokOk] at htok
  have hpos : 0 < ys.length := List.length_pos_iff.2 hne
  have hg : c < xs.length + ys.length := by omega
  obtain ⟨olds, hol, hom, hor⟩ : ∃ olds : List Value, olds.length = xs.length * i.size ∧ (∀ w' : World, w'.heap = W.heap → (Builtin.firstCells i.size xs.length (.slice a xs.length c)).run P w' = .ok olds.toArray w') ∧ RepL I (xs.flatMap AV.cells) olds := by
    cases xs with
    | nil =>
      refine ⟨[], by simp, fun w' _ => ?_, by simp [RepL]⟩
      cases a with
      | none => exact run_firstCells_none w' _ _ _ _
      | some ad => exact run_firstCells_some w' i.size 0 ad 0 c [] (by simp) (by simp)
    | cons x xs =>
      rcases hR with hx | ⟨b, o, rfl, hR⟩
      · cases hx
      · have : sz = i.size := by
          simp only [RepR] at hR
          obtain ⟨⟨u, h1, h2, _⟩, _⟩ := hR
          have hx := hxs x (by simp)
          have := (h1.cells' (by omega)).length
          simp at this; omega
        subst this
        obtain ⟨olds, n1, n2, n3, _⟩ := hR.flatL (fun y hy => by rw [hxs y hy]; omega)
        refine ⟨olds, n1, fun w' hw' => run_firstCells_some w' i.size _ _ _ c olds n1 (fun j v hj => ?_), n3⟩
        have := h.imm _ _ _ (n2 j v hj)
        rw [addr_add]; unfold World.cell? at this ⊢; rw [hw']; exact this
  have hgrow := run_append_grow_src (P := P) W t t ty e i z ht hi hz a xs.length c olds (hom W.drew rfl) _ ys.length news hsrc hg (by omega) (growslice_fits hg hfit)
  obtain ⟨cap, hcap⟩ : ∃ cap, cap = grownCap W (xs.length + ys.length) c e := ⟨_, rfl⟩
  have hcapge : xs.length + ys.length ≤ cap := hcap ▸ grownCap_ge _ _ _ _
  obtain ⟨arr, harr⟩ : ∃ arr, arr = (olds ++ news).toArray ++ Builtin.zeroCells z.cells (cap - (xs.length + ys.length)) := ⟨_, rfl⟩
  rw [← hcap, ← harr] at hgrow
  have hd := h.drew
  refine ⟨W.heap.size, cap, _, _, hgrow, h.fresh (Nat.le_refl _), hcapge, ?_, ?_⟩
  · refine (hd.alloc_any _).ins_cells (heap_new _ _) ?_ (hd.immNone (Nat.le_refl _)) (fun k hk e => by have := hd.live_lt hk; exact absurd e (Nat.ne_of_lt this)) (.inr hd.upd.size)
    rw [harr]
    simp only [Array.toList_append, List.flatMap_append]
    refine (hor.append hnr).append ?_
    have := repL_undef I (Builtin.zeroCells z.cells (cap - (xs.length + ys.length))).toList
    rwa [Array.length_toList, size_zeroCells, hzs] at this
  · simp only [Rep]
    exact ⟨trivial, hcapge⟩
theorem St.le.trans_ {a b c : St} (h : a.le b) (k : b.le c) : a.le c := ⟨fun x o e => k.objs x o (h.objs x o e), fun x e => k.live x (h.live x e)⟩
def St.del (st : St) (b : Nat) : St := { st with objs := fun i => if i = b then none else st.objs i }
theorem St.del_le (st : St) (b : Nat) : (st.del b).le st := ⟨fun x o e => by simp only [St.del] at e; split at e; cases e; exact e, fun _ e => e⟩
theorem del_ins_le (st : St) (b : Nat) (o : AObj) : ((st.del b).ins b o).le (st.ins b o) := ⟨fun x y e => by simp only [St.del, St.ins] at e ⊢; split at e <;> simp_all, fun _ e => e⟩
/-- An append to a slice over an object. -/
theorem append_osl (h : Rel B I st W) {t ty e : TypeId} {i : TypeInfo} {z : Value} (ht : P.underlying t = some (.slice e)) (hi : P.info? e = some i) (hz : i.zero = some z) (hzs : z.cells.size = i.size) (hp : 0 < i.size)
    {b n c : Nat} {cs ys : List AV} {ty2 : Tok} {u w : Value} (hu : Rep I (.osl b n c) u) (hob : st.objs b = some (.cells cs)) (hcs : cs.length = c * i.size) (hw : Rep I (.sl ys ty2) w) (hys : ∀ y ∈ ys, okEl i.size y = true)
    (hlen : n + ys.length ≤ 1000000000000) (hfit : (n + ys.length) * i.bytes ≤ 140737488355328) :
    ∃ b' c' rest v W', (Builtin.append_ #[t, t] ty #[u, w]).run P W = .ok v W' ∧ (b' = b ∨ st.objs b' = none) ∧ n + ys.length ≤ c' ∧ rest.length = (c' - (n + ys.length)) * i.size ∧
      Rel B I ((st.del b).ins b' (.cells (cs.take (n * i.size) ++ ys.flatMap AV.cells ++ rest))) W' ∧ Rep I (.osl b' (n + ys.length) c') v := by
  obtain ⟨news, hnl, hnr, hsrc⟩ := src_of h hp ht hw hys
  have hflen := hnr.length
  simp only [Rep] at hu
  obtain ⟨rfl, hc⟩ := hu
  obtain ⟨vs, vty, hv, hr⟩ := h.cells b cs hob
  have hvl := hr.length
  have hvsz : vs.size = c * i.size := by simpa [hcs] using hvl
  by_cases hroom : n + ys.length ≤ c
  · have hmul : n * i.size + ys.length * i.size ≤ c * i.size := by rw [← Nat.add_mul]; exact Nat.mul_le_mul_right _ hroom
    by_cases hy0 : ys = []
    · subst hy0
      have hn0 : news = [] := by cases news; rfl; simp at hnl
      subst hn0
      refine ⟨b, c, cs.drop (n * i.size), _, W, run_append_nothing W t t ty e i ht hi (some ⟨b, 0, none⟩) n c hc _ hsrc, .inl rfl, by simpa using hc, by simp [hcs, Nat.sub_mul], ?_, ?_⟩
      · refine h.weaken (St.le.trans_ (del_ins_le st b _) ?_)
        simp only [List.flatMap_nil, List.append_nil, List.take_append_drop]
        exact ⟨fun x y e => by simp only [St.ins] at e; split at e; · (rename_i hx; subst hx; cases e; exact hob)
                               exact e, fun _ e => e⟩
      · simp only [Rep, List.length_nil, Nat.add_zero]; exact ⟨trivial, hc⟩
    · have hcell : ∀ j, j < news.length → (W.cell? ⟨b, 0 + n * i.size + j, none⟩).isSome = true := fun j hj => by
        rw [cell_of hv]
        have : n * i.size + j < vs.size := by omega
        rw [Nat.zero_add]
        simp [this]
      have hrun := run_append_room_src (P := P) W t t ty e i ht hi b 0 n c _ ys.length news hsrc hroom hcell (fun j hj => by simp [World.frozen?, hv])
      rw [Nat.zero_add] at hrun
      have hst := h.store hob (off := n * i.size) hnr (by rw [← hflen, hnl]; omega)
      refine ⟨b, c, cs.drop (n * i.size + (ys.flatMap AV.cells).length), _, _, hrun, .inl rfl, hroom, ?_, hst.weaken (del_ins_le st b _), ?_⟩
      · rw [← hflen, hnl, List.length_drop, hcs, Nat.sub_mul, Nat.add_mul]
      · simp only [Rep]; exact ⟨trivial, hroom⟩
  · have hg : c < n + ys.length := by omega
    have holen : (vs.toList.take (n * i.size)).length = n * i.size := by
      have : n * i.size ≤ c * i.size := Nat.mul_le_mul_right _ hc
      simp; omega
    have hom : (Builtin.firstCells i.size n (.slice (some ⟨b, 0, none⟩) n c)).run P W.drew = .ok (vs.toList.take (n * i.size)).toArray W.drew := by
      refine run_firstCells_some W.drew i.size n ⟨b, 0, none⟩ n c _ holen (fun j v hj => ?_)
      rw [addr_add, Nat.zero_add]
      have : W.drew.cell? ⟨b, j, none⟩ = W.cell? ⟨b, j, none⟩ := rfl
      rw [this, cell_of hv]
      rw [List.getElem?_take] at hj
      split at hj
      · simpa using hj
      · cases hj
    have hgrow := run_append_grow_src (P := P) W t t ty e i z ht hi hz (some ⟨b, 0, none⟩) n c (vs.toList.take (n * i.size)) hom _ ys.length news hsrc hg (by omega) (growslice_fits hg hfit)
    obtain ⟨cap, hcap⟩ : ∃ cap, cap = grownCap W (n + ys.length) c e := ⟨_, rfl⟩
    have hcapge : n + ys.length ≤ cap := hcap ▸ grownCap_ge _ _ _ _
    obtain ⟨arr, harr⟩ : ∃ arr, arr = (vs.toList.take (n * i.size) ++ news).toArray ++ Builtin.zeroCells z.cells (cap - (n + ys.length)) := ⟨_, rfl⟩
    rw [← hcap, ← harr] at hgrow
    have hd := (h.weaken (St.del_le st b)).drew
    refine ⟨W.heap.size, cap, List.replicate ((cap - (n + ys.length)) * i.size) .undef, _, _, hgrow, .inr (h.fresh (Nat.le_refl _)), hcapge, by simp, ?_, ?_⟩
    · refine (hd.alloc_any _).ins_cells (heap_new _ _) ?_ (hd.immNone (Nat.le_refl _)) (fun k hk e => by have := hd.live_lt hk; exact absurd e (Nat.ne_of_lt this)) (.inr hd.upd.size)
      rw [harr]
      simp only [Array.toList_append]
      refine ((hr.take _).append hnr).append ?_
      have := repL_undef I (Builtin.zeroCells z.cells (cap - (n + ys.length))).toList
      rwa [Array.length_toList, size_zeroCells, hzs] at this
    · simp only [Rep]; exact ⟨trivial, hcapge⟩
/-- Elements, out of their cells. -/
theorem RepR.of_flat {J : Im} {sz b : Nat} (hp : 0 < sz) : ∀ {xs : List AV} {vs : List Value} {o : Nat}, (∀ x ∈ xs, okEl sz x = true) → RepL J (xs.flatMap AV.cells) vs → (∀ j v, vs[j]? = some v → J b (o + j) = some v) → RepR J sz xs b o
  | [], _, _, _, _, _ => by simp [RepR]
  | x :: xs, vs, o, hk, hr, hm => by
    have hx := hk x (by simp)
    simp only [okEl, Bool.and_eq_true, beq_iff_eq] at hx
    simp only [List.flatMap_cons] at hr
    have h1 := hr.take sz
    have h2 := hr.drop sz
    rw [List.take_append_of_le_length (by omega), List.take_of_length_le (by omega)] at h1
    rw [List.drop_append_of_le_length (by omega), List.drop_of_length_le (by omega), List.nil_append] at h2
    have hl1 := h1.length
    simp only [RepR]
    refine ⟨?_, RepR.of_flat hp (fun y hy => hk y (by simp [hy])) h2 (fun j v hj => ?_)⟩
    · have hrow : ∀ j v, (vs.take sz)[j]? = some v → J b (o + j) = some v := fun j v hj => by
        rw [List.getElem?_take] at hj
        split at hj
        · exact hm j v hj
        · cases hj
      cases x with
      | agg cs =>
        refine ⟨.agg (vs.take sz).toArray, by simp only [Rep]; exact ⟨_, rfl, by simpa [AV.cells] using h1⟩, by simp only [Value.cells]; simpa [AV.cells] using hl1.trans hx.1, fun j v hj => hrow j v (by simpa [Value.cells] using hj)⟩
      | undef => simp [AV.cells] at hx; omega
      | no => simp [AV.cells] at hx; omega
      | tup vs => simp [AV.cells, AV.isCell] at hx
      | _ =>
        simp only [AV.cells] at h1 hx hl1
        match hv : vs.take sz, h1 with
        | [v], h1 =>
          have hcell := isCell_one h1.1 rfl
          have hone : v.cells = #[v] := by cases v <;> first | rfl | (simp [Value.oneCell'] at hcell)
          refine ⟨v, h1.1, by rw [hone]; simpa using hx.1, fun j u hj => ?_⟩
          rw [hone] at hj
          exact hrow j u (by rw [hv]; simpa using hj)
        | [], h1 => exact h1.elim
        | _ :: _ :: _, h1 => exact h1.2.elim
    · have := hm (sz + j) v (by rw [List.getElem?_drop] at hj; exact hj)
      rwa [show o + (sz + j) = o + sz + j by omega] at this
end
end Go.Proofs.Ytddbnncimggogaa.V
end
section
set_option linter.unusedSimpArgs false
set_option linter.unusedVariables false
/- Operations of the program's form, as operations over values with rows taken in. -/
namespace Go.Proofs.Ytddbnncimggogaa.V
open Go Go.RowKit
inductive VO where
  | mov (x : VE)
  | pick (c a b : VE)
  | build (zero : List AV) (parts : List (Nat × Nat × VE))
  | bsl (sz : Nat) (xs : List VE)
  | load (n : Nat) (ag : Bool) (x : VE)
  | nchk (x : VE)
  | bin (op : BinOp) (x y : VE)
  | eqs (neg : Bool) (ks : List Nat) (x y : VE)
  | eqs1 (neg : Bool) (x y : VE)
  | un (op : UnOp) (x : VE)
  | conv (k : IntKind) (x : VE)
  | mkf (f : Nat) (fs cs : List VE)
  | slc (sz : Nat) (x : VE) (lo hi mx : Option VE)
  | fad (off : Nat) (x : VE)
  | fld (off n : Nat) (ag : Bool) (x : VE)
  | iad (sz : Nat) (x i : VE)
  | iaa (len sz : Nat) (x i : VE)
  | ixa (len sz : Nat) (ag : Bool) (x i : VE)
  | ixs (x i : VE)
  | ext (x : VE) (i : Nat)
  | len (x : VE)
  | lens (x : VE)
  | mnx (mn : Bool) (x : VE) (xs : List VE)
  | box (x : VE)
  | alloc (cs : List AV)
  | store (n : Nat) (x v : VE)
  | app (sz bytes : Nat) (s x : VE)
  | call (f : Nat) (args : List VE)
  | callv (g : VE) (args : List VE)
  | isnil (neg : Bool) (x : VE)
  | bad
  deriving Inhabited
def vpick (c a b : AV) : Option AV := match c with | .bool t => some (if t then a else b) | _ => none
def vfill : List AV → List (Nat × Nat × AV) → Option (List AV)
  | cs, [] => some cs
  | cs, (off, n, x) :: r => if x.cells.length = n ∧ 0 < n ∧ off + n ≤ cs.length then vfill (cs.take off ++ x.cells ++ cs.drop (off + n)) r else none
def vbsl (sz : Nat) (xs : List AV) : Option AV := if xs.all (fun x => x.cells.length == sz) && decide (0 < sz) then some (.sl xs .full) else none
/-- Cells of given kinds (0 numbers, 1 tests, 2 strings), compared. -/
def eqCell : Nat → AV → AV → Option Bool
  | 0, .int k a, .int k' b => if k = k' then some (a == b) else none
  | 1, .bool a, .bool b => some (a == b)
  | 2, .str a, .str b => some (a.toList == b.toList)
  | _, _, _ => none
def eqCells : List Nat → List AV → List AV → Option Bool
  | [], [], [] => some true
  | k :: ks, a :: aas, b :: bs => match eqCell k a b, eqCells ks aas bs with
    | some x, some y => some (x && y)
    | _, _ => none
  | _, _, _ => none
def veqs (neg : Bool) (ks : List Nat) (x y : AV) : Option AV := match x, y with
  | .agg cs, .agg ds => match eqCells ks cs ds with | some b => some (.bool (if neg then !b else b)) | none => none
  | _, _ => none
def veqs1 (neg : Bool) (x y : AV) : Option AV := match x, y with | .bool a, .bool b => some (.bool (if neg then !(a == b) else a == b)) | _, _ => none
/-- A bound: given, or not. -/
def bnd (x : Option AV) (d : Int) : Option Int := match x with | some (.int _ n) => some n | some _ => none | none => some d
def vslc (x : AV) (lo hi mx : Option AV) : Option AV := match x with
  | .sl xs t => match bnd lo 0, bnd hi xs.length with
    | some l, some h => if 0 ≤ l ∧ l ≤ h ∧ h ≤ xs.length then
        (match mx with
         | none => some (.sl ((xs.drop l.toNat).take (h - l).toNat) (if lo.isNone && hi.isNone then t else .no))
         | some (.int _ m) => if m = h ∧ hi.isSome = true then some (.sl ((xs.drop l.toNat).take (h - l).toNat) .full) else none
         | some _ => none) else none
    | _, _ => none
  | _ => none
def vmnx (mn : Bool) : AV → List AV → Option AV
  | a, [] => some a
  | a, b :: r => match (if mn then vmin2 a b else vmax2 a b) with | some c => vmnx mn c r | none => none
def VE.evs (fr : Fr) (xs : List VE) : List AV := xs.map (·.ev fr)
/-- What an operation yields that leaves the state alone. -/
def vval (o : VO) (fr : Fr) (st : St) : Option AV :=
  match o with
  | .mov x => some (x.ev fr)
  | .pick c a b => vpick (c.ev fr) (a.ev fr) (b.ev fr)
  | .build z ps => (vfill z (ps.map fun (o, n, x) => (o, n, x.ev fr))).map .agg
  | .bsl sz xs => vbsl sz (VE.evs fr xs)
  | .load n ag x => vload st (x.ev fr) n ag
  | .nchk x => vnchk (x.ev fr)
  | .bin op x y => vbin op (x.ev fr) (y.ev fr)
  | .eqs neg n x y => veqs neg n (x.ev fr) (y.ev fr)
  | .eqs1 neg x y => veqs1 neg (x.ev fr) (y.ev fr)
  | .un op x => vun op (x.ev fr)
  | .conv k x => vconv k (x.ev fr)
  | .mkf f fs cs => some (.clo f (VE.evs fr fs) (VE.evs fr cs))
  | .slc _ x lo hi mx => vslc (x.ev fr) (lo.map (·.ev fr)) (hi.map (·.ev fr)) (mx.map (·.ev fr))
  | .fad off x => vfad off (x.ev fr)
  | .fld off n ag x => vfld off n ag (x.ev fr)
  | .iad sz x i => viad sz (x.ev fr) (i.ev fr)
  | .iaa len sz x i => viaa len sz (x.ev fr) (i.ev fr)
  | .ixa len sz ag x i => vixa len sz ag (x.ev fr) (i.ev fr)
  | .ixs x i => vixs (x.ev fr) (i.ev fr)
  | .ext x i => vext (x.ev fr) i
  | .len x => vlen (x.ev fr)
  | .lens x => vlens (x.ev fr)
  | .mnx mn x xs => vmnx mn (x.ev fr) (VE.evs fr xs)
  | _ => none
variable (P : Program) (Z : Im)
def VCalls (f : Nat) (args : List AV) (st : St) (K : AV → St → Prop) : Prop :=
  (∀ a w, (callFunc f a).run P w = .ok (.enter f a) w) ∧
  ∀ (B : Base) (I : Im) (W : World) (vs : Array Value), Z.le I → Rel B I st W → RepL I args vs.toList →
    Calls P f vs W fun e W' => ∃ u J st' v, e = .returned u ∧ I.le J ∧ Rel B J st' W' ∧ Rep J v u ∧ K v st'
def VYield (l : Nat) (args : List AV) (st : St) (K : AV → St → Prop) : Prop :=
  ∀ (B : Base) (I : Im) (W : World) (vs : Array Value), Z.le I → Rel B I st W → RepL I args vs.toList →
    YieldAt Fence.wide 0 P l vs W fun e W' => ∃ u J st' v, e = .returned u ∧ I.le J ∧ Rel B J st' W' ∧ Rep J v u ∧ K v st'
theorem VCalls.mono {P : Program} {Z : Im} {f : Nat} {args : List AV} {st : St} {K K' : AV → St → Prop} (h : VCalls P Z f args st K) (hk : ∀ v s, K v s → K' v s) : VCalls P Z f args st K' :=
  ⟨h.1, fun B I W vs hz hr ha => (h.2 B I W vs hz hr ha).mono fun _ _ ⟨u, J, st', v, h1, h2, h3, h4, h5⟩ => ⟨u, J, st', v, h1, h2, h3, h4, hk _ _ h5⟩⟩
theorem YieldAt.mono' {F : Fence} {m : Nat} {P : Program} {l : Nat} {args : Array Value} {W : World} {R R' : Ending → World → Prop} (h : YieldAt F m P l args W R) (hr : ∀ e w, R e w → R' e w) : YieldAt F m P l args W R' := by
  obtain ⟨fn, tmps, assign, body, h1, h2⟩ := h
  exact ⟨fn, tmps, assign, body, h1, h2.mono hr⟩
theorem VYield.mono {P : Program} {Z : Im} {l : Nat} {args : List AV} {st : St} {K K' : AV → St → Prop} (h : VYield P Z l args st K) (hk : ∀ v s, K v s → K' v s) : VYield P Z l args st K' :=
  fun B I W vs hz hr ha => YieldAt.mono' (h B I W vs hz hr ha) fun _ _ ⟨u, J, st', v, h1, h2, h3, h4, h5⟩ => ⟨u, J, st', v, h1, h2, h3, h4, hk _ _ h5⟩
def optK (x : Option AV) (K : AV → Prop) : Prop := match x with | some v => K v | none => False
theorem optK_out {x : Option AV} {K : AV → Prop} (h : optK x K) : ∃ v, x = some v ∧ K v := by
  cases x with
  | none => exact h.elim
  | some v => exact ⟨v, rfl, h⟩
/-- An append whose outcome is looked at only. -/
def appA (s x : AV) (sz bytes : Nat) (st : St) (K : AV → St → Prop) : Prop := match s, x with
  | .sl xs tk, .sl ys _ => st.has sz tk = true ∧ (∀ x ∈ xs, x.cells.length = sz) ∧ (∀ y ∈ ys, okEl sz y = true) ∧ xs.length + ys.length ≤ 1000000000000 ∧ (xs.length + ys.length) * bytes ≤ 140737488355328 ∧
      ∀ t', (st.kill tk).fresh sz t' → K (.sl (xs ++ ys) t') ((st.kill tk).add t')
  | _, _ => False
/-- An append whose outcome may be written to. -/
def appB (s x : AV) (sz bytes : Nat) (st : St) (K : AV → St → Prop) : Prop := match s, x with
  | .sl xs .full, .sl ys _ => ys ≠ [] ∧ (∀ x ∈ xs, x.cells.length = sz) ∧ (∀ y ∈ ys, okEl sz y = true) ∧ xs.length + ys.length ≤ 1000000000000 ∧ (xs.length + ys.length) * bytes ≤ 140737488355328 ∧
      ∀ b c rest, st.objs b = none → xs.length + ys.length ≤ c → rest.length = (c - (xs.length + ys.length)) * sz → K (.osl b (xs.length + ys.length) c) (st.ins b (.cells ((xs ++ ys).flatMap AV.cells ++ rest)))
  | .osl b n c, .sl ys _ => ∃ cs, st.objs b = some (.cells cs) ∧ cs.length = c * sz ∧ (∀ y ∈ ys, okEl sz y = true) ∧ n + ys.length ≤ 1000000000000 ∧ (n + ys.length) * bytes ≤ 140737488355328 ∧
      ∀ b' c' rest, b' = b ∨ st.objs b' = none → n + ys.length ≤ c' → rest.length = (c' - (n + ys.length)) * sz → K (.osl b' (n + ys.length) c') ((st.del b).ins b' (.cells (cs.take (n * sz) ++ ys.flatMap AV.cells ++ rest)))
  | _, _ => False
theorem appA_mono {s x : AV} {sz bytes : Nat} {st : St} {K K' : AV → St → Prop} (h : appA s x sz bytes st K) (hk : ∀ v s, K v s → K' v s) : appA s x sz bytes st K' := by
  unfold appA at h ⊢
  split at h
  · obtain ⟨h1, h2, h3, h4, h5, h6⟩ := h; exact ⟨h1, h2, h3, h4, h5, fun t ht => hk _ _ (h6 t ht)⟩
  · exact h
theorem appB_mono {s x : AV} {sz bytes : Nat} {st : St} {K K' : AV → St → Prop} (h : appB s x sz bytes st K) (hk : ∀ v s, K v s → K' v s) : appB s x sz bytes st K' := by
  unfold appB at h ⊢
  split at h
  · obtain ⟨h1, h2, h3, h4, h5, h6⟩ := h; exact ⟨h1, h2, h3, h4, h5, fun b c r p q u => hk _ _ (h6 b c r p q u)⟩
  · obtain ⟨cs, h1, h2, h3, h4, h5, h6⟩ := h; exact ⟨cs, h1, h2, h3, h4, h5, fun b c r p q u => hk _ _ (h6 b c r p q u)⟩
  · exact h
def vstep (o : VO) (fr : Fr) (st : St) (K : AV → St → Prop) : Prop :=
  match o with
  | .slc sz x lo hi mx => (lo.isSome = true → match x.ev fr with | .sl xs _ => 0 < sz ∧ ∀ y ∈ xs, y.cells.length = sz | _ => False) ∧
      optK (vslc (x.ev fr) (lo.map (·.ev fr)) (hi.map (·.ev fr)) (mx.map (·.ev fr))) (K · st)
  | .box x => 0 < (x.ev fr).cells.length ∧ ∀ b, st.objs b = none → K (.ptr b 0) (st.ins b (.cells (x.ev fr).cells))
  | .alloc cs => ∀ b, st.objs b = none → K (.ptr b 0) (st.ins b (.cells cs))
  | .store n x v => match x.ev fr with
    | .ptr b off => match st.objs b with
      | some (.cells cs) => (v.ev fr).cells.length = n ∧ 0 < n ∧ off + n ≤ cs.length ∧ (v.ev fr).cells.all AV.isCell = true ∧ K .no (st.ins b (.cells (cs.take off ++ (v.ev fr).cells ++ cs.drop (off + n))))
      | _ => False
    | _ => False
  | .app sz bytes s x => appA (s.ev fr) (x.ev fr) sz bytes st K ∨ appB (s.ev fr) (x.ev fr) sz bytes st K
  | .call f args => VCalls P Z f (VE.evs fr args) st K
  | .callv g args => match g.ev fr with
    | .clo f fs cs => VCalls P Z f (fs ++ VE.evs fr args ++ cs) st K
    | .yld l => VYield P Z l (VE.evs fr args) st K
    | _ => False
  | .isnil neg x => match x.ev fr with
    | .sl xs _ => ∀ b : Bool, (xs ≠ [] → b = false) → K (.bool (if neg then !b else b)) st
    | _ => False
  | .bad => False
  | o => optK (vval o fr st) (K · st)
/-! ### Out of the program's form -/
def toCell : Value → Option AV
  | .int k n => some (.int k n)
  | .bool b => some (.bool b)
  | .string s => some (.str s)
  | .pointer none => some .nilp
  | .slice none 0 0 => some (.sl [] .full)
  | .nilFunc => some .nilf
  | .map none => some .nilm
  | _ => none
def toCells : List Value → Option (List AV)
  | [] => some []
  | v :: r => match toCell v, toCells r with | some a, some aas => some (a :: aas) | _, _ => none
def toAV : Value → Option AV
  | .agg cs => (toCells cs.toList).map .agg
  | v => toCell v
theorem rep_nil (I : Im) : Rep I (.sl [] .full) (.slice none 0 0) := by
  unfold Rep
  exact ⟨none, 0, 1, rfl, Nat.le_refl _, by omega, .inl rfl, fun _ => rfl, (trivial), rfl⟩
theorem toCell_ok {I : Im} {v : Value} {a : AV} (h : toCell v = some a) : Rep I a v := by
  unfold toCell at h
  split at h
  all_goals cases h
  all_goals first
    | exact rep_nil I
    | (simp only [Rep]; done)
    | (simp only [Rep]; rfl)
theorem toCells_ok {I : Im} : ∀ {vs : List Value} {aas : List AV}, toCells vs = some aas → RepL I aas vs
  | [], aas, h => by simp [toCells] at h; subst h; simp [RepL]
  | v :: r, aas, h => by
    unfold toCells at h
    split at h
    · rename_i a aas' h1 h2
      cases h
      exact ⟨toCell_ok h1, toCells_ok h2⟩
    · cases h
theorem toAV_ok {I : Im} {v : Value} {a : AV} (h : toAV v = some a) : Rep I a v := by
  unfold toAV at h
  split at h
  · rename_i cs
    cases hc : toCells cs.toList with
    | none => rw [hc] at h; cases h
    | some aas => rw [hc] at h; cases h; simp only [Rep]; exact ⟨cs, rfl, toCells_ok hc⟩
  · exact toCell_ok h
def compE : Operand → Option VE
  | .tmp t => some (.t t)
  | .const v => (toAV v).map .c
  | .func f => some (.c (.clo f [] []))
  | .global _ => none
def compEs : List Operand → Option (List VE)
  | [] => some []
  | x :: r => match compE x, compEs r with | some a, some aas => some (a :: aas) | _, _ => none
def compO : Option Operand → Option (Option VE)
  | none => some none
  | some x => (compE x).map some
def mark (D : Nat) : Deferred := { target := .collected D, args := #[] }
structure FrRep (I : Im) (n : Nat) (fr : Fr) (a : Act) : Prop where
  size : a.tmps.size = n
  rep : ∀ i, Rep I (fr.t i) (a.eval (.tmp i))
  defs : a.defers = fr.d.map mark
variable {P}
section
variable {B : Base} {I : Im} {st : St} {W : World} {fr : Fr} {a : Act} {n : Nat}
theorem compE_ok (hf : FrRep I n fr a) {x : Operand} {e : VE} (h : compE x = some e) : Rep I (e.ev fr) (a.eval x) := by
  unfold compE at h
  split at h
  · cases h; exact hf.rep _
  · rename_i v
    cases hv : toAV v with
    | none => rw [hv] at h; cases h
    | some b => rw [hv] at h; cases h; exact toAV_ok hv
  · cases h; simp only [VE.ev, Rep, Act.eval]; exact ⟨#[], #[], rfl, by simp [RepL], by simp [RepL]⟩
  · cases h
theorem compEs_ok (hf : FrRep I n fr a) : ∀ {xs : List Operand} {es : List VE}, compEs xs = some es → RepL I (VE.evs fr es) (xs.map a.eval)
  | [], es, h => by simp [compEs] at h; subst h; simp [VE.evs, RepL]
  | x :: r, es, h => by
    unfold compEs at h
    split at h
    · rename_i e es' h1 h2
      cases h
      exact ⟨compE_ok hf h1, compEs_ok hf h2⟩
    · cases h
end
end Go.Proofs.Ytddbnncimggogaa.V
end
section
set_option linter.unusedSimpArgs false
set_option linter.unusedVariables false
/- Structs compared; structs and rows built; rows cut: what the program's own operations yield. -/
namespace Go.Proofs.Ytddbnncimggogaa.V
open Go Go.RowKit
variable {P : Program}
def fsShape (P : Program) (g : TypeId → Option (List Nat)) : List Field → Nat → Option (List Nat)
  | [], _ => some []
  | f :: r, o => if f.name ≠ "_" ∧ f.offset = o then match g f.type with
      | some ks => if (P.info? f.type).map (·.size) = some ks.length then match fsShape P g r (o + ks.length) with
        | some l => some (ks ++ l)
        | none => none else none
      | none => none else none
def eqShape (P : Program) : Nat → TypeId → Option (List Nat)
  | 0, _ => none
  | d + 1, t => match P.underlying t with
    | some (.int _) => some [0]
    | some .bool => some [1]
    | some .string => some [2]
    | some (.struct fs) => if P.stoodInHeld t = false then fsShape P (eqShape P d) fs.toList 0 else none
    | _ => none
theorem eqCells_cons {k : Nat} {ks : List Nat} {cs ds : List AV} {r : Bool} (h : eqCells (k :: ks) cs ds = some r) : ∃ a aas b bs x y, cs = a :: aas ∧ ds = b :: bs ∧ eqCell k a b = some x ∧ eqCells ks aas bs = some y ∧ r = (x && y) := by
  cases cs with
  | nil => simp [eqCells] at h
  | cons a aas => cases ds with
    | nil => simp [eqCells] at h
    | cons b bs =>
      simp only [eqCells] at h
      split at h
      · rename_i x y h1 h2; cases h; exact ⟨a, aas, b, bs, x, y, rfl, rfl, h1, h2, rfl⟩
      · cases h
theorem eqCells_nil {cs ds : List AV} {r : Bool} (h : eqCells [] cs ds = some r) : cs = [] ∧ ds = [] ∧ r = true := by
  cases cs <;> cases ds <;> simp_all [eqCells]
theorem eqCells_append : ∀ {ks ls : List Nat} {cs ds : List AV} {r : Bool}, eqCells (ks ++ ls) cs ds = some r →
    ∃ r1 r2, eqCells ks (cs.take ks.length) (ds.take ks.length) = some r1 ∧ eqCells ls (cs.drop ks.length) (ds.drop ks.length) = some r2 ∧ r = (r1 && r2)
  | [], ls, cs, ds, r, h => ⟨true, r, by simp [eqCells], by simpa using h, by simp⟩
  | k :: ks, ls, cs, ds, r, h => by
    obtain ⟨a, aas, b, bs, x, y, rfl, rfl, h1, h2, rfl⟩ := eqCells_cons h
    obtain ⟨r1, r2, e1, e2, rfl⟩ := eqCells_append h2
    exact ⟨x && r1, r2, by simp [eqCells, h1, e1], by simpa using e2, by rw [Bool.and_assoc]⟩
theorem eqCells_length : ∀ {ks : List Nat} {cs ds : List AV} {r : Bool}, eqCells ks cs ds = some r → cs.length = ks.length ∧ ds.length = ks.length
  | [], cs, ds, r, h => by obtain ⟨rfl, rfl, _⟩ := eqCells_nil h; simp
  | k :: ks, cs, ds, r, h => by
    obtain ⟨a, aas, b, bs, x, y, rfl, rfl, h1, h2, rfl⟩ := eqCells_cons h
    have := eqCells_length h2; simp; omega
/-- A value of a type out of cells. -/
def mkVal (row : Bool) (vs : List Value) : Value := if row then .agg vs.toArray else vs.getD 0 undef
theorem run_part_mk {W : World} {t : TypeId} {d : TypeDesc} (hu : P.underlying t = some d) {n : Nat} (hi : (P.info? t).map (·.size) = some n) (hn : d.isRow = false → n = 1) {vs : List Value} {off : Nat} (hl : off + n ≤ vs.length) :
    (part t vs.toArray off).run P W = .ok (mkVal d.isRow ((vs.drop off).take n)) W := by
  cases hq : P.info? t with
  | none => simp [hq] at hi
  | some i =>
    have hs : i.size = n := by simpa [hq] using hi
    cases hd : d.isRow with
    | true =>
      have hagg : (isAgg t).run P W = .ok true W := by
        unfold isAgg
        rw [Sem.run_bind, run_underlying hu W]
        cases d <;> simp_all
      simp [part, hagg, sizeOf, typeInfo, hq, go_sem, mkVal, hs, List.extract_eq_take_drop]
    | false =>
      have hagg : (isAgg t).run P W = .ok false W := by
        unfold isAgg
        rw [Sem.run_bind, run_underlying hu W]
        cases d <;> simp_all
      have h1 := hn hd
      subst h1
      have : off < vs.length := by omega
      simp [part, hagg, go_sem, mkVal, this, List.getElem?_take, List.getElem?_drop]
theorem equalIn_ok {I : Im} {W : World} : ∀ (d D : Nat) (t : TypeId) (ks : List Nat), eqShape P d t = some ks → ∀ (dd : TypeDesc), P.underlying t = some dd → (dd.isRow = false → ks.length = 1) ∧ ∀ (cs ds : List AV) (vs us : List Value), RepL I cs vs → RepL I ds us → ∀ r, eqCells ks cs ds = some r →
    (Op.equalIn (d + D) t (mkVal dd.isRow vs) (mkVal dd.isRow us)).run P W = .ok r W
  | 0, _, _, _, h => by simp [eqShape] at h
  | d + 1, D, t, ks, h => by
    intro dd hdd
    unfold eqShape at h
    rw [hdd] at h
    rw [show d + 1 + D = (d + D) + 1 by omega]
    split at h
    · cases h
      rename_i k hk; cases hk
      refine ⟨fun _ => rfl, fun cs ds vs us hr hs r he => ?_⟩
      obtain ⟨a, aas, b, bs, x, y, rfl, rfl, h1, h2, rfl⟩ := eqCells_cons he
      obtain ⟨rfl, rfl, rfl⟩ := eqCells_nil h2
      cases vs with
      | nil => exact hr.elim
      | cons v vs => cases us with
        | nil => exact hs.elim
        | cons u us =>
          have h3 := hr.1; have h4 := hs.1
          unfold eqCell at h1
          split at h1 <;> try (first | (simp at *; done) | (cases h1; done))
          simp only [Rep] at h3 h4
          subst h3 h4
          simp only [mkVal, TypeDesc.isRow, Bool.false_eq_true, if_false, List.getD_cons_zero]
          obtain ⟨rfl, rfl⟩ := ite_some h1
          rw [run_equalIn_int W _ t _ _ _ _ hdd]; simp
    · cases h
      rename_i hk; cases hk
      refine ⟨fun _ => rfl, fun cs ds vs us hr hs r he => ?_⟩
      obtain ⟨a, aas, b, bs, x, y, rfl, rfl, h1, h2, rfl⟩ := eqCells_cons he
      obtain ⟨rfl, rfl, rfl⟩ := eqCells_nil h2
      cases vs with
      | nil => exact hr.elim
      | cons v vs => cases us with
        | nil => exact hs.elim
        | cons u us =>
          have h3 := hr.1; have h4 := hs.1
          unfold eqCell at h1
          split at h1 <;> try (first | (simp at *; done) | (cases h1; done))
          simp only [Rep] at h3 h4
          subst h3 h4
          simp only [mkVal, TypeDesc.isRow, Bool.false_eq_true, if_false, List.getD_cons_zero]
          cases h1
          rw [run_equalIn_bool' W _ t _ _ hdd]; simp
    · cases h
      rename_i hk; cases hk
      refine ⟨fun _ => rfl, fun cs ds vs us hr hs r he => ?_⟩
      obtain ⟨a, aas, b, bs, x, y, rfl, rfl, h1, h2, rfl⟩ := eqCells_cons he
      obtain ⟨rfl, rfl, rfl⟩ := eqCells_nil h2
      cases vs with
      | nil => exact hr.elim
      | cons v vs => cases us with
        | nil => exact hs.elim
        | cons u us =>
          have h3 := hr.1; have h4 := hs.1
          unfold eqCell at h1
          split at h1 <;> try (first | (simp at *; done) | (cases h1; done))
          simp only [Rep] at h3 h4
          subst h3 h4
          simp only [mkVal, TypeDesc.isRow, Bool.false_eq_true, if_false, List.getD_cons_zero]
          cases h1
          rw [run_equalIn_string W _ t _ _ hdd]; simp
    · rename_i fs hk
      cases hk
      split at h
      · rename_i hst
        refine ⟨fun e => by simp at e, fun cs ds vs us hr hs r he => ?_⟩
        have hfs : P.fieldsOf t = fs := by simp [Program.fieldsOf, hdd]
        simp only [mkVal, TypeDesc.isRow, if_true]
        rw [run_equalIn_struct W (d + D) t _ _ (by rw [hfs]; exact hdd) hst, hfs]
        have key : ∀ (fl : List Field) (o : Nat) (ls : List Nat) (r : Bool), fsShape P (eqShape P d) fl o = some ls → eqCells ls (cs.drop o) (ds.drop o) = some r → o ≤ cs.length → o ≤ ds.length →
            (Op.eqFields (d + D) vs.toArray us.toArray fl).run P W = .ok r W := by
          intro fl
          induction fl with
          | nil =>
            intro o ls r h1 h2 _ _
            simp [fsShape] at h1; subst h1
            obtain ⟨_, _, rfl⟩ := eqCells_nil h2
            simp [Op.eqFields]
          | cons f fl ih =>
            intro o ls r h1 h2 ho1 ho2
            unfold fsShape at h1
            split at h1
            · rename_i hc
              obtain ⟨hname, hoff⟩ := hc
              split at h1
              · rename_i ks' hks
                split at h1
                · rename_i hsz
                  split at h1
                  · rename_i l hl
                    cases h1
                    obtain ⟨r1, r2, e1, e2, e3⟩ := eqCells_append h2
                    rw [List.drop_drop, List.drop_drop] at e2
                    cases hfu : P.underlying f.type with
                    | none =>
                      cases d with
                      | zero => simp [eqShape] at hks
                      | succ d => simp [eqShape, hfu] at hks
                    | some fd =>
                      obtain ⟨hn1, heq⟩ := equalIn_ok (I := I) (W := W) d D f.type ks' hks fd hfu
                      have hl1 : o + ks'.length ≤ cs.length ∧ o + ks'.length ≤ ds.length := by
                        have := eqCells_length e1
                        simp at this; omega
                      have hvl := hr.length
                      have hul := hs.length
                      have hp1 := run_part_mk (W := W) hfu hsz hn1 (vs := vs) (off := o) (by omega)
                      have hp2 := run_part_mk (W := W) hfu hsz hn1 (vs := us) (off := o) (by omega)
                      have hq := heq _ _ _ _ ((hr.drop o).take ks'.length) ((hs.drop o).take ks'.length) r1 e1
                      simp only [Op.eqFields, ne_eq, hname, not_false_eq_true, if_true, Sem.run_bind, hoff, hp1, hp2, Result.andThen_ok, hq]
                      cases r1 with
                      | false => simp [e3]
                      | true =>
                        simp only [Bool.not_true, Bool.false_eq_true, if_false]
                        rw [e3, Bool.true_and]
                        exact ih (o + ks'.length) l r2 hl e2 hl1.1 hl1.2
                  · cases h1
                · cases h1
              · cases h1
            · cases h1
        exact key fs.toList 0 ks r h (by simpa using he) (Nat.zero_le _) (Nat.zero_le _)
      · cases h
    · cases h
end Go.Proofs.Ytddbnncimggogaa.V
end
section
set_option linter.unusedSimpArgs false
set_option linter.unusedVariables false
/- What the program's own operations yield, where they leave the state alone. -/
namespace Go.Proofs.Ytddbnncimggogaa.V
open Go Go.RowKit
variable {P : Program}
theorem foldl_set : ∀ (l : List Value) (k off : Nat) (cs : Array Value), off + k + l.length ≤ cs.size →
    ((l.zipIdx k).foldl (fun cs (x : Value × Nat) => cs.setIfInBounds (off + x.2) x.1) cs).toList = cs.toList.take (off + k) ++ l ++ cs.toList.drop (off + k + l.length)
  | [], k, off, cs, _ => by simp
  | v :: l, k, off, cs, h => by
    simp only [List.length_cons] at h
    rw [List.zipIdx_cons, List.foldl_cons, foldl_set l (k + 1) off _ (by simp; omega)]
    have hlt : off + k < cs.toList.length := by simp; omega
    have e1 : (cs.toList.set (off + k) v).take (off + (k + 1)) = cs.toList.take (off + k) ++ [v] := by
      rw [show off + (k + 1) = off + k + 1 by omega, List.take_add_one, List.take_set_of_le (Nat.le_refl _), List.getElem?_set_self hlt]; rfl
    have e2 : (cs.toList.set (off + k) v).drop (off + (k + 1) + l.length) = cs.toList.drop (off + k + (v :: l).length) := by
      rw [List.drop_set_of_lt (by omega)]; congr 1; simp; omega
    simp only [Array.toList_setIfInBounds, e1, e2]
    simp
theorem fill_ok {I : Im} (place : Nat → Option (Nat × Nat)) : ∀ (parts : List (Nat × Value)) (ps : List (Nat × Nat × AV)) (cs cs' : List AV) (vs : Array Value),
    RepL I cs vs.toList → parts.length = ps.length → (∀ (j : Nat) (p : Nat × Value) (q : Nat × Nat × AV), parts[j]? = some p → ps[j]? = some q → place p.1 = some (q.1, q.2.1) ∧ Rep I q.2.2 p.2) → vfill cs ps = some cs' → ∃ vs', Instr.fill place vs parts = some vs' ∧ RepL I cs' vs'.toList
  | [], [], cs, cs', vs, hr, _, _, h => by simp [vfill] at h; subst h; exact ⟨vs, rfl, hr⟩
  | (i, u) :: parts, (off, n, x) :: ps, cs, cs', vs, hr, hl, hp, h => by
    unfold vfill at h
    split at h
    · rename_i hc
      obtain ⟨h1, h2, h3⟩ := hc
      obtain ⟨hpl, hx⟩ := hp 0 (i, u) (off, n, x) rfl rfl
      have hx : Rep I x u := hx
      have hxc := hx.cells' (by omega)
      have hul : u.cells.size = n := by have := hxc.length; simp at this; omega
      have hvl : vs.size = cs.length := by have := hr.length; simpa using this
      unfold Instr.fill
      simp only at hpl
      rw [hpl]
      simp only
      have hcond : ¬ ((decide (u.cells.size ≠ n) || decide (off + u.cells.size > vs.size)) = true) := by rw [hul, hvl]; simp; omega
      rw [if_neg hcond]
      have hfold := foldl_set u.cells.toList 0 off vs (by simp; omega)
      have hz : u.cells.zipIdx.foldl (fun cs (c, j) => cs.setIfInBounds (off + j) c) vs = (u.cells.toList.zipIdx 0).foldl (fun cs (x : Value × Nat) => cs.setIfInBounds (off + x.2) x.1) vs := by
        rw [← Array.foldl_toList]; simp
      rw [hz]
      refine fill_ok place parts ps _ cs' _ ?_ (by simpa using hl) (fun j p q h1 h2 => hp (j + 1) p q (by simpa using h1) (by simpa using h2)) h
      rw [hfold]
      simp only [Nat.add_zero]
      have : u.cells.toList.length = n := by simpa using hul
      rw [this]
      exact ((hr.take off).append hxc).append (hr.drop (off + n))
    · cases h
  | [], _ :: _, _, _, _, _, h, _, _ => by simp at h
  | _ :: _, [], _, _, _, _, h, _, _ => by simp at h
def placeOf (P : Program) (t : TypeId) : Option (Nat → Option (Nat × Nat)) :=
  match P.underlying t with
  | some (.array _ e) => match P.info? e with | some ie => some (fun i => some (i * ie.size, ie.size)) | none => none
  | some (.struct fields) => match fields.toList.mapM (fun f => (P.info? f.type).map fun i => (f.offset, i.size)) with | some places => some (places.toArray[·]?) | none => none
  | _ => none
def compParts (place : Nat → Option (Nat × Nat)) : List (Nat × Operand) → Option (List (Nat × Nat × VE))
  | [] => some []
  | (i, x) :: r => match place i, compE x, compParts place r with
    | some (off, n), some e, some es => some ((off, n, e) :: es)
    | _, _, _ => none
theorem compParts_ok {I : Im} {n : Nat} {fr : Fr} {a : Act} (hf : FrRep I n fr a) {place : Nat → Option (Nat × Nat)} : ∀ {parts : List (Nat × Operand)} {es : List (Nat × Nat × VE)}, compParts place parts = some es →
    parts.length = es.length ∧ ∀ (j : Nat) (p : Nat × Value) (q : Nat × Nat × AV), (parts.map fun (i, x) => (i, a.eval x))[j]? = some p → (es.map fun (o, n, x) => (o, n, x.ev fr))[j]? = some q → place p.1 = some (q.1, q.2.1) ∧ Rep I q.2.2 p.2
  | [], es, h => by simp [compParts] at h; subst h; simp
  | (i, x) :: r, es, h => by
    unfold compParts at h
    split at h
    · rename_i off m e es' h1 h2 h3
      cases h
      obtain ⟨hl, hr⟩ := compParts_ok hf h3
      refine ⟨by simp [hl], fun j p q hp hq => ?_⟩
      cases j with
      | zero => simp at hp hq; subst hp hq; exact ⟨h1, compE_ok hf h2⟩
      | succ j => exact hr j p q (by simpa using hp) (by simpa using hq)
    · cases h
theorem built_of {t : TypeId} {it : TypeInfo} {z : Value} {place : Nat → Option (Nat × Nat)} (hi : P.info? t = some it) (hz : it.zero = some z) (hp : placeOf P t = some place) (parts : List (Nat × Value)) : P.built t parts = Instr.fill place z.cells parts := by
  unfold placeOf at hp
  unfold Program.built
  rw [hi]
  cases hu : P.underlying t with
  | none => rw [hu] at hp; cases hp
  | some d =>
    rw [hu] at hp
    cases d <;> simp only at hp <;> try (cases hp; done)
    · rename_i len e
      split at hp
      · rename_i ie hie; cases hp; simp [hz, hie]
      · cases hp
    · rename_i fields
      split at hp
      · rename_i places hpl; cases hp; simp only [hz, hpl]
      · cases hp
theorem vmnx_ok {I : Im} {W : World} (mn : Bool) : ∀ (xs : List AV) (us : List Value) (x v : AV) (u : Value), RepL I xs us → Rep I x u → vmnx mn x xs = some v →
    ∃ z, (us.foldlM (if mn then Builtin.min2 else Builtin.max2) u).run P W = .ok z W ∧ Rep I v z
  | [], [], x, v, u, _, hx, h => by simp [vmnx] at h; subst h; exact ⟨u, by simp, hx⟩
  | y :: xs, w :: us, x, v, u, hr, hx, h => by
    unfold vmnx at h
    split at h
    · rename_i c hc
      have : ∃ z, ((if mn then Builtin.min2 else Builtin.max2) u w).run P W = .ok z W ∧ Rep I c z := by
        have hy := hr.1
        cases mn with
        | true =>
          simp only [if_true] at hc ⊢
          unfold vmin2 at hc
          split at hc
          · cases hc; simp only [Rep] at hx hy; subst hx hy; rename_i k a k' b; exact ⟨.int k (min a b), by simp [Builtin.min2, Int.min_def]; split <;> split <;> omega, by simp only [Rep]⟩
          · cases hc
        | false =>
          simp only [Bool.false_eq_true, if_false] at hc ⊢
          unfold vmax2 at hc
          split at hc
          · cases hc; simp only [Rep] at hx hy; subst hx hy; rename_i k a k' b; exact ⟨.int k (max a b), by simp [Builtin.max2, Int.max_def]; split <;> split <;> omega, by simp only [Rep]⟩
          · cases hc
      obtain ⟨z, hz, hcz⟩ := this
      obtain ⟨z2, hz2, hr2⟩ := vmnx_ok mn xs us c v z hr.2 hcz h
      exact ⟨z2, by rw [List.foldlM_cons, Sem.run_bind, hz]; exact hz2, hr2⟩
    · cases h
  | [], _ :: _, _, _, _, h, _, _ => h.elim
  | _ :: _, [], _, _, _, h, _, _ => h.elim
end Go.Proofs.Ytddbnncimggogaa.V
end
section
set_option linter.unusedSimpArgs false
set_option linter.unusedVariables false
/- The program's own operations, compiled; what they yield. -/
namespace Go.Proofs.Ytddbnncimggogaa.V
open Go Go.RowKit
def compOp (P : Program) (o : Oper) : Option VO := match o.op with
  | .panic _ => some .bad
  | .makeInterface _ _ => some .bad
  | .move x => (compE x).map .mov
  | .assign x => (compE x).map .mov
  | .pick c a b => match compE c, compE a, compE b with | some c, some a, some b => some (.pick c a b) | _, _, _ => none
  | .alloc e => match P.info? e with
    | some i => match i.zero with
      | some z => (toCells z.cells.toList).map .alloc
      | none => none
    | none => none
  | .box _ x => (compE x).map .box
  | .build t parts => match P.info? t with
    | some i => match i.zero, placeOf P t with
      | some z, some place => match toCells z.cells.toList, compParts place parts.toList with
        | some zc, some ps => some (.build zc ps)
        | _, _ => none
      | _, _ => none
    | none => none
  | .buildSlice t len parts => match P.underlying t with
    | some (.slice e) => match P.info? e with
      | some i => if i.zero.isSome = true ∧ 0 < i.size ∧ len * i.size ≤ 16777216 ∧ parts.toList.map (·.1) = List.range len then (compEs (parts.toList.map (·.2))).map (.bsl i.size) else none
      | none => none
    | _ => none
  | .load t x => match P.underlying t, P.info? t, compE x with | some d, some i, some e => some (.load i.size d.isRow e) | _, _, _ => none
  | .store t x y => match P.info? t, compE x, compE y with | some i, some e, some f => some (.store i.size e f) | _, _, _ => none
  | .nilCheck x => (compE x).map .nchk
  | .binOp op t x y _ => match compE x, compE y with
    | some e, some f => match P.underlying t with
      | some (.struct _) => if P.eqGuardType P.depth t = false then match op, eqShape P 8 t with
          | .eql, some ks => some (.eqs false ks e f)
          | .neq, some ks => some (.eqs true ks e f)
          | _, _ => none else none
      | some (.int _) => some (.bin op e f)
      | some .string => some (.bin op e f)
      | some .bool => match op with
        | .eql => some (.eqs1 false e f)
        | .neq => some (.eqs1 true e f)
        | _ => none
      | some (.slice _) => match op, y with
        | .eql, .const (.slice none 0 0) => some (.isnil false e)
        | .neq, .const (.slice none 0 0) => some (.isnil true e)
        | _, _ => none
      | _ => none
    | _, _ => none
  | .unOp op _ x => (compE x).map (.un op)
  | .convert s d x => match P.underlying s, P.underlying d, compE x with | some (.int _), some (.int k), some e => some (.conv k e) | _, _, _ => none
  | .makeFunc (.func f) fs cs => match compEs fs.toList, compEs cs.toList with | some a, some b => some (.mkf f a b) | _, _ => none
  | .slice t x lo hi mx => match P.underlying t with
    | some (.slice el) => match P.info? el with
      | some i => match compE x, compO lo, compO hi, compO mx with | some e, some l, some h, some m => some (.slc i.size e l h m) | _, _, _, _ => none
      | none => none
    | _ => none
  | .fieldAddr t x f => match P.underlying t, compE x with
    | some (.struct fs), some e => match fs[f]? with
      | some fd => match P.info? fd.type with | some i => if i.size ≠ 0 then some (.fad fd.offset e) else none | none => none
      | none => none
    | _, _ => none
  | .field t x f => match P.underlying t, compE x with
    | some (.struct fs), some e => match fs[f]? with
      | some fd => match P.underlying fd.type, P.info? fd.type with | some d, some i => some (.fld fd.offset i.size d.isRow e) | _, _ => none
      | none => none
    | _, _ => none
  | .indexAddr t x y => match P.underlying t, compE x, compE y with
    | some (.slice e), some a, some b => match P.info? e with | some i => some (.iad i.size a b) | none => none
    | some (.array len e), some a, some b => match P.info? e with | some i => some (.iaa len i.size a b) | none => none
    | _, _, _ => none
  | .index t x y => match P.underlying t, compE x, compE y with
    | some (.array len e), some a, some b => match P.underlying e, P.info? e with | some d, some i => some (.ixa len i.size d.isRow a b) | _, _ => none
    | some .string, some a, some b => some (.ixs a b)
    | _, _, _ => none
  | .extract x i => (compE x).map (.ext · i)
  | .call c => match c.callee with
    | .value (.func f) => (compEs c.args.toList).map (.call f)
    | .value g => match compE g, compEs c.args.toList with | some e, some es => some (.callv e es) | _, _ => none
    | .builtin .len => match c.args.toList, c.argTypes.toList with
      | [x], [t] => match P.underlying t, compE x with
        | some (.slice _), some e => some (.len e)
        | some .string, some e => some (.lens e)
        | _, _ => none
      | _, _ => none
    | .builtin .min => match compEs c.args.toList with | some (x :: xs) => some (.mnx true x xs) | _ => none
    | .builtin .max => match compEs c.args.toList with | some (x :: xs) => some (.mnx false x xs) | _ => none
    | .builtin .append => match c.args.toList, c.argTypes.toList with
      | [x, y], [t, t'] => if t = t' then match P.underlying t, compE x, compE y with
        | some (.slice e), some a, some b => match P.info? e with
          | some i => if 0 < i.size ∧ i.zero.isSome = true ∧ i.zero.map (·.cells.size) = some i.size then some (.app i.size i.bytes a b) else none
          | none => none
        | _, _, _ => none else none
      | _, _ => none
    | _ => none
  | _ => none
variable {P : Program}
theorem bnd_ok {I : Im} {n : Nat} {fr : Fr} {a : Act} (hf : FrRep I n fr a) {x : Option Operand} {e : Option VE} {dflt r : Int} (hc : compO x = some e) (hb : bnd (e.map (·.ev fr)) dflt = some r) :
    (x = none ∧ e = none ∧ r = dflt) ∨ ∃ y k, x = some y ∧ e.isSome = true ∧ a.eval y = .int k r := by
  cases x with
  | none => simp [compO] at hc; subst hc; simp [bnd] at hb; exact .inl ⟨rfl, rfl, hb.symm⟩
  | some y =>
    simp only [compO, Option.map_eq_some_iff] at hc
    obtain ⟨e', he, rfl⟩ := hc
    have hr := compE_ok hf he
    simp only [Option.map_some, bnd] at hb
    split at hb
    · rename_i k n' h
      cases hb
      simp only [Option.some.injEq] at h
      rw [h] at hr; simp only [Rep] at hr
      exact .inr ⟨y, k, rfl, rfl, hr⟩
    · cases hb
    · rename_i h; cases h
end Go.Proofs.Ytddbnncimggogaa.V
end
section
set_option linter.unusedSimpArgs false
set_option linter.unusedVariables false
/- The operations that leave the state alone: they yield what is said. -/
namespace Go.Proofs.Ytddbnncimggogaa.V
open Go Go.RowKit
variable {P : Program}
theorem sliceBound_ok {W : World} {v : Value} {k : IntKind} {L : Nat} (h : v = .int k (L : Nat)) (y : Nat) (code : BoundsCode) (hy : L ≤ y) : (Instr.sliceBound v y code).run P W = .ok L W := by
  subst h
  simp only [Instr.sliceBound, asIntOf, Sem.run_bind, Sem.run_pure, Result.andThen_ok]
  rw [if_pos (by omega)]; simp
theorem slice_ok {I : Im} {W : World} {n : Nat} {fr : Fr} {a : Act} (hf : FrRep I n fr a) {t e : TypeId} {i : TypeInfo} (ht : P.underlying t = some (.slice e)) (hi : P.info? e = some i) {x : Operand} {lo hi' mx : Option Operand} {ex : VE} {el eh em : Option VE}
    (hx : compE x = some ex) (hlo : compO lo = some el) (hhi : compO hi' = some eh) (hmx : compO mx = some em) {v : AV} (h : vslc (ex.ev fr) (el.map (·.ev fr)) (eh.map (·.ev fr)) (em.map (·.ev fr)) = some v)
    (hsize : lo.isSome = true → ∀ xs tk, ex.ev fr = .sl xs tk → 0 < i.size ∧ ∀ x ∈ xs, x.cells.length = i.size) :
    ∃ z, (Instr.sliceAt t (a.eval x) (lo.map a.eval) (hi'.map a.eval) (mx.map a.eval)).run P W = .ok z W ∧ Rep I v z := by
  have hrx := compE_ok hf hx
  unfold vslc at h
  split at h
  case h_2 => cases h
  rename_i xs tk hxe
  have hsz := fun hs => hsize hs xs tk hxe
  rw [hxe] at hrx
  split at h
  case h_2 => cases h
  rename_i l hh hl1 hh1
  split at h
  case isFalse => cases h
  rename_i hle
  simp only [Rep] at hrx
  obtain ⟨ad, c, sz, hav, h1, h2, h3, h4, h5, h6⟩ := hrx
  have hszi : lo.isSome = true → xs ≠ [] → sz = i.size := fun hs hne => by
    have hsz := hsz hs
    cases xs with
    | nil => exact absurd rfl hne
    | cons y ys =>
      rcases h3 with h3 | ⟨b, o, e1, hR⟩
      · cases h3
      · simp only [RepR] at hR
        obtain ⟨⟨u, r1, r2, _⟩, _⟩ := hR
        have hy := hsz.2 y (by simp)
        have := (r1.cells' (by omega)).length
        simp at this; omega
  have hsizeOf : (sizeOf e).run P W = .ok i.size W := by simp [sizeOf, typeInfo, hi]
  have hl := bnd_ok hf hlo hl1
  have hh := bnd_ok hf hhi hh1
  obtain ⟨hl0, hlh, hhn⟩ := hle
  obtain ⟨L, rfl⟩ := Int.eq_ofNat_of_zero_le hl0
  obtain ⟨H, rfl⟩ := Int.eq_ofNat_of_zero_le (Int.le_trans hl0 hlh)
  have hLH : L ≤ H := by omega
  have hHn : H ≤ xs.length := by omega
  have hrepr : ∀ (tk' : Tok) (ad' : Option Addr) (c' : Nat), (H - L ≤ c') → (ad' = none → c' = 0) → True → (L < H → ∃ b o, ad = some ⟨b, o, none⟩ ∧ ad' = some ⟨b, o + L * i.size, none⟩) → tokOk tk' ad' sz (H - L) c' →
      Rep I (.sl ((xs.drop L).take (H - L)) tk') (.slice ad' (H - L) c') := fun tk' ad' c' q1 q2 q3 q4 q5 => by
    have hlen : ((xs.drop L).take (H - L)).length = H - L := by simp; omega
    simp only [Rep]
    refine ⟨ad', c', sz, by rw [hlen], by rw [hlen]; exact q1, h2, ?_, q2, q3, by rw [hlen]; exact q5⟩
    by_cases hlt : L < H
    · obtain ⟨b, o, rfl, rfl⟩ := q4 hlt
      have hne : xs ≠ [] := by intro e; subst e; simp at hHn; omega
      rcases h3 with h3 | ⟨b', o', e1, hR⟩
      · exact absurd h3 hne
      · cases e1
        by_cases hL0 : L = 0
        · subst hL0; exact .inr ⟨b, _, rfl, by simpa using hR.take (H - 0)⟩
        · have := hszi (by rcases hl with ⟨_, _, e0⟩ | ⟨_, _, e0, _⟩; omega; rw [e0]; rfl) hne
          subst this
          exact .inr ⟨b, _, rfl, (hR.drop L).take (H - L)⟩
    · left
      have : H - L = 0 := by omega
      rw [this]; rfl
  cases hmm : em.map (·.ev fr) with
  | none =>
    rw [hmm] at h
    simp only [Option.some.injEq] at h
    subst h
    have hmn : mx = none := by
      cases mx with
      | none => rfl
      | some m => simp only [compO, Option.map_eq_some_iff] at hmx; obtain ⟨e', _, rfl⟩ := hmx; simp at hmm
    subst hmn
    have hb : (Instr.sliceBounds true xs.length c (lo.map a.eval) (hi'.map a.eval) (Option.map a.eval none)).run P W = .ok (L, H, c) W := by
      unfold Instr.sliceBounds
      rcases hl with ⟨rfl, rfl, e0⟩ | ⟨y', k, rfl, _, e0⟩ <;> rcases hh with ⟨rfl, rfl, e1⟩ | ⟨y2, k2, rfl, _, e1⟩
      · have h1 : L = 0 := by omega
        have h2 : H = xs.length := by omega
        subst h1 h2
        simp
      · have h1 : L = 0 := by omega
        subst h1
        simp [Sem.run_bind, sliceBound_ok e1 c .sliceAcap (by omega)]
      · have h2 : H = xs.length := by omega
        subst h2
        simp [Sem.run_bind, sliceBound_ok e0 xs.length .sliceB hLH]
      · simp [Sem.run_bind, sliceBound_ok e0 H .sliceB hLH, sliceBound_ok e1 c .sliceAcap (by omega)]
    refine ⟨.slice (if c = L then ad else ad.map (·.add (L * i.size))) (H - L) (c - L), ?_, ?_⟩
    · simp only [Instr.sliceAt, Instr.slice, Sem.run_bind, run_underlying ht, Result.andThen_ok, hav, hb, hsizeOf, Sem.run_pure]
    · have e1 : ((L : Nat) : Int).toNat = L := by simp
      have e2 : (((H : Nat) : Int) - (L : Nat)).toNat = H - L := by omega
      show Rep I (.sl ((xs.drop ((L : Nat) : Int).toNat).take (((H : Nat) : Int) - (L : Nat)).toNat) _) _
      rw [e1, e2]
      refine hrepr _ _ _ (by omega) (fun e0 => ?_) trivial (fun hlt => ?_) ?_
      · split at e0
        · omega
        · cases ad with
          | none => have := h4 rfl; omega
          | some d => cases e0
      · have hcL : c ≠ L := by omega
        rcases h3 with rfl | ⟨b', o', e1, hR⟩
        · simp at hHn; omega
        · exact ⟨b', o', e1, by rw [if_neg hcL, e1, Option.map_some, addr_add]⟩
      · split
        · rename_i hnn
          simp only [Bool.and_eq_true, Option.isNone_iff_eq_none] at hnn
          have hLn : el = none := by cases el <;> simp_all
          have hHn' : eh = none := by cases eh <;> simp_all
          have hL0 : L = 0 := by
            rcases hl with ⟨_, _, e0⟩ | ⟨_, _, _, e0, _⟩
            · omega
            · rw [hLn] at e0; cases e0
          have hHx : H = xs.length := by
            rcases hh with ⟨_, _, e0⟩ | ⟨_, _, _, e0, _⟩
            · omega
            · rw [hHn'] at e0; cases e0
          subst hL0
          rw [hHx]
          have : (if c = 0 then ad else ad.map (·.add (0 * i.size))) = ad := by
            split
            · rfl
            · cases ad <;> simp [Addr.add]
          rw [this]; exact h6
        · trivial
  | some m =>
    rw [hmm] at h
    cases m <;> simp only at h <;> try (cases h; done)
    rename_i k M
    obtain ⟨hMH, rfl⟩ := ite_some h
    obtain ⟨hMH, hsome⟩ := hMH
    subst hMH
    have hmz : ∃ y, mx = some y ∧ a.eval y = .int k (H : Nat) := by
      cases mx with
      | none => simp [compO] at hmx; subst hmx; simp at hmm
      | some y =>
        simp only [compO, Option.map_eq_some_iff] at hmx
        obtain ⟨e', he, rfl⟩ := hmx
        have hr := compE_ok hf he
        simp only [Option.map_some, Option.some.injEq] at hmm
        rw [hmm] at hr; simp only [Rep] at hr
        exact ⟨y, rfl, hr⟩
    obtain ⟨y, rfl, hy⟩ := hmz
    obtain ⟨y2, k2, rfl, _, hy2⟩ : ∃ y' k', hi' = some y' ∧ eh.isSome = true ∧ a.eval y' = .int k' (H : Nat) := by
      rcases hh with ⟨rfl, rfl, _⟩ | h'
      · simp at hsome
      · exact h'
    have hb : (Instr.sliceBounds true xs.length c (lo.map a.eval) (Option.map a.eval (some y2)) (Option.map a.eval (some y))).run P W = .ok (L, H, H) W := by
      unfold Instr.sliceBounds
      rcases hl with ⟨rfl, rfl, e0⟩ | ⟨y', k, rfl, _, e0⟩
      · have h1 : L = 0 := by omega
        subst h1
        simp [Sem.run_bind, sliceBound_ok hy c .slice3Acap (by omega), sliceBound_ok hy2 H .slice3B (Nat.le_refl _)]
      · simp [Sem.run_bind, sliceBound_ok hy c .slice3Acap (by omega), sliceBound_ok hy2 H .slice3B (Nat.le_refl _), sliceBound_ok e0 H .slice3C hLH]
    refine ⟨.slice (if H = L then ad else ad.map (·.add (L * i.size))) (H - L) (H - L), ?_, ?_⟩
    · simp only [Instr.sliceAt, Instr.slice, Sem.run_bind, run_underlying ht, Result.andThen_ok, hav, hb, hsizeOf, Sem.run_pure]
    · have e1 : ((L : Nat) : Int).toNat = L := by simp
      have e2 : (((H : Nat) : Int) - (L : Nat)).toNat = H - L := by omega
      rw [e1, e2]
      refine hrepr _ _ _ (Nat.le_refl _) (fun e0 => ?_) trivial (fun hlt => ?_) rfl
      · split at e0
        · omega
        · cases ad with
          | none => have := h4 rfl; omega
          | some d => cases e0
      · rcases h3 with rfl | ⟨b', o', e1, hR⟩
        · simp at hHn; omega
        · exact ⟨b', o', e1, by rw [if_neg (by omega), e1, Option.map_some, addr_add]⟩
end Go.Proofs.Ytddbnncimggogaa.V
end
section
set_option linter.unusedSimpArgs false
set_option linter.unusedVariables false
/- The operations' own steps. -/
namespace Go.Proofs.Ytddbnncimggogaa.V
open Go Go.RowKit
variable {P : Program}
section
variable {B : Base} {I : Im} {st : St} {W : World} {fr : Fr} {a : Act} {n : Nat}
theorem vload_ok (h : Rel B I st W) {t : TypeId} {d : TypeDesc} {i : TypeInfo} (hu : P.underlying t = some d) (hi : P.info? t = some i) {x v : AV} {u : Value} (hx : Rep I x u) (hv : vload st x i.size d.isRow = some v) :
    ∃ z, (Instr.loadAt t u).run P W = .ok z W ∧ Rep I v z := by
  unfold vload at hv
  split at hv
  · rename_i b off
    simp only [Rep] at hx
    subst hx
    split at hv
    · rename_i cs hcs
      obtain ⟨vs, ty, hb, hr⟩ := h.cells b cs hcs
      obtain ⟨z, hz, hrz⟩ := load_of (W := W) hu hi (b := b) (o := 0) hr (fun j u hj => by rw [cell_of hb]; simpa using hj) hv
      rw [Nat.zero_add] at hz
      exact ⟨z, by simp only [Instr.loadAt, Instr.sureAddr, Sem.run_bind, Sem.run_pure, Result.andThen_ok]; exact hz, hrz⟩
    · cases hv
  · rename_i x off
    simp only [Rep] at hx
    obtain ⟨b, o, u, rfl, hxu, hrow⟩ := hx
    split at hv
    · cases hv
    · rename_i hund
      by_cases hne : x.cells = []
      · have hn : x = .no ∨ ∃ cs, x = .agg cs := by
          cases x <;> simp_all [AV.cells, AV.isUndef]
        rcases hn with rfl | ⟨cs, rfl⟩
        · unfold grab at hv
          split at hv
          · rename_i hle
            simp [AV.cells] at hle
            obtain ⟨rfl, h0⟩ := hle
            split at hv
            · rename_i hrow'
              obtain ⟨z, hz, hrz⟩ := load_of (W := W) hu hi (b := b) (o := o) (cs := []) (vs := []) (by simp [RepL]) (by simp) (off := 0) (v := v) (by unfold grab; simp [h0, hrow']; simpa [AV.cells, h0] using hv)
              exact ⟨z, by simp only [Instr.loadAt, Instr.sureAddr, Sem.run_bind, Sem.run_pure, Result.andThen_ok]; exact hz, hrz⟩
            · simp [AV.cells] at hv
          · cases hv
        · obtain ⟨z, hz, hrz⟩ := load_of (W := W) hu hi (b := b) (o := o) (hxu.cells (by simp) (by simp)) (fun j v hj => h.imm _ _ _ (hrow j v (by simpa using hj))) hv
          exact ⟨z, by simp only [Instr.loadAt, Instr.sureAddr, Sem.run_bind, Sem.run_pure, Result.andThen_ok]; exact hz, hrz⟩
      · obtain ⟨z, hz, hrz⟩ := load_of (W := W) hu hi (b := b) (o := o) (hxu.cells' (List.length_pos_iff.2 hne)) (fun j v hj => h.imm _ _ _ (hrow j v (by simpa using hj))) hv
        exact ⟨z, by simp only [Instr.loadAt, Instr.sureAddr, Sem.run_bind, Sem.run_pure, Result.andThen_ok]; exact hz, hrz⟩
  · cases hv
/-- A row of what is given, made. -/
theorem bsl_ok (h : Rel B I st W) {t e : TypeId} {i : TypeInfo} (hu : P.underlying t = some (.slice e)) (hi : P.info? e = some i) (hz : i.zero.isSome = true) (hp : 0 < i.size) {len : Nat} (hsm : len * i.size ≤ 16777216)
    {xs : List AV} {us : List Value} (hr : RepL I xs us) (hl : us.length = len) {v : AV} (hv : vbsl i.size xs = some v) :
    ∃ u W' J, (Instr.buildSlice t len ((us.zipIdx 0).map fun x => (x.2, x.1)).toArray).run P W = .ok u W' ∧ I.le J ∧ Rel B J st W' ∧ Rep J v u := by
  unfold vbsl at hv
  obtain ⟨hc, rfl⟩ := ite_some hv
  simp only [Bool.and_eq_true, List.all_eq_true, beq_iff_eq] at hc
  have hus : ∀ u ∈ us, u.cells.size = i.size := by
    clear hv hl hsm
    induction xs generalizing us with
    | nil => cases us with
      | nil => simp
      | cons u us => exact hr.elim
    | cons x xs ih => cases us with
      | nil => exact hr.elim
      | cons u us =>
        intro w hw
        rcases List.mem_cons.1 hw with rfl | hw
        · have hx := hc.1 x (by simp)
          have := (hr.1.cells' (by omega)).length
          simp at this; omega
        · exact ih hr.2 ⟨fun x hx => hc.1 x (by simp [hx]), hc.2⟩ w hw
  obtain ⟨z, hz⟩ := Option.isSome_iff_exists.1 hz
  by_cases h0 : len = 0
  · have : us = [] := List.length_eq_zero_iff.1 (by omega)
    subst this
    have hxs : xs = [] := by cases xs with
      | nil => rfl
      | cons => exact hr.elim
    subst hxs h0
    refine ⟨.slice (some ⟨W.heap.size, 0, none⟩) 0 0, W.alloc (.cells #[] e), I, ?_, Im.le.refl _, h.alloc_any _, ?_⟩
    · simp [Instr.buildSlice, run_underlying hu, sizeOf, typeInfo, hi, newRow, Instr.fill]
      have e0 : ∀ (f : Nat → Value), Array.map f (Array.range 0) = #[] := fun f => Array.ext' (by simp)
      rw [e0]
    · unfold Rep
      exact ⟨_, 0, 1, rfl, Nat.le_refl _, by omega, .inl rfl, by simp, trivial, rfl⟩
  · have hpos : ¬ len * i.size = 0 := by
      have := Nat.mul_pos (Nat.pos_of_ne_zero h0) hp; omega
    have hfill := Great.fill_whole hp us (((Array.range (len * i.size)).map (z.cells[· % z.cells.size]!))) hus (by simp [hl])
    have hrun := run_buildSlice (P := P) W t e len ((us.zipIdx 0).map fun x => (x.2, x.1)).toArray _ i z hu hi hz (by omega) hpos (by simpa using hfill)
    obtain ⟨arr, harr⟩ : ∃ arr, arr = (us.flatMap fun v => v.cells.toList).toArray := ⟨_, rfl⟩
    rw [← harr] at hrun
    obtain ⟨hle, hrel⟩ := h.newRow arr e arr.size
    refine ⟨_, _, _, hrun, hle, hrel, ?_⟩
    have hxl : xs.length = len := by have := hr.length; omega
    unfold Rep
    refine ⟨some ⟨W.heap.size, 0, none⟩, len, i.size, by rw [hxl], by omega, hp, .inr ⟨W.heap.size, 0, rfl, ?_⟩, by simp, trivial, hxl.symm⟩
    refine RepR.of_cells (hr.mono hle) hus (fun j v hj => ?_)
    unfold Im.row
    have : arr[0 + j]? = some v := by rw [harr]; simpa [List.flatMap] using hj
    have hjs := (Array.getElem?_eq_some_iff.1 this).1
    rw [if_pos ⟨rfl, Nat.zero_le _, hjs⟩]
    exact this
end
end Go.Proofs.Ytddbnncimggogaa.V
end
section
set_option linter.unusedSimpArgs false
set_option linter.unusedVariables false
/- One operation, walked. -/
namespace Go.Proofs.Ytddbnncimggogaa.V
open Go Go.RowKit
variable {P : Program}
def FR (ro : Option Nat) : Fence := { Fence.wide with round := ro }
section
variable {B : Base} {I : Im} {st : St} {W : World} {fr : Fr} {a : Act} {n : Nat}
/-- What is known behind an operation. -/
def After (B : Base) (I : Im) (a : Act) (dst : Option Tmp) (K : AV → St → Prop) (a' : Act) (W' : World) : Prop :=
  ∃ v st' u J, I.le J ∧ Rel B J st' W' ∧ Rep J v u ∧ a' = a.put dst u ∧ K v st'
theorem wpIn_value {ro : Option Nat} {o : Oper} (hd : ∀ c, o.op ≠ .defer c) {Q : Exit → Act → World → Prop} {K : AV → St → Prop} {u : Value} {W' : World} {J : Im} {v : AV} {st' : St} (hrun : (execOp a.eval o).run P W = .ok (.value u) W') (hle : I.le J) (hr : Rel B J st' W') (hv : Rep J v u)
    (hk : K v st') : o.wpIn (FR ro) 0 P a W (After B I a o.dst K) Q := by
  refine ⟨fun f _ => trivial, ?_⟩
  rw [Oper.semAt_eq _ _ _ hd, hrun]
  exact ⟨v, st', u, J, hle, hr, hv, rfl, hk⟩
theorem wpIn_calls {Z : Im} {ro : Option Nat} {o : Oper} (hd : ∀ c, o.op ≠ .defer c) {Q : Exit → Act → World → Prop} {K : AV → St → Prop} {f : Nat} {args : List AV} {vs : Array Value} (hrun : (execOp a.eval o).run P W = .ok (.enter f vs) W)
    (h : Rel B I st W) (ha : RepL I args vs.toList) (hz : Z.le I) (hk : VCalls P Z f args st K) : o.wpIn (FR ro) 0 P a W (After B I a o.dst K) Q := by
  refine ⟨fun f _ => trivial, ?_⟩
  rw [Oper.semAt_eq _ _ _ hd, hrun]
  refine ⟨fun e => by simp [FR, Fence.wide] at e, ?_⟩
  have c0 : CallsIn (FR ro) (0 - 1) P f vs W _ := callsIn_wide (n := 0) |>.2 (hk.2 B I W vs hz h ha)
  exact CallsIn.mono c0 (fun e w' => by rintro ⟨u, J, st', v, rfl, hle, hr, hv, hk⟩; exact ⟨v, st', u, J, hle, hr, hv, rfl, hk⟩)
theorem wpIn_yield {Z : Im} {ro : Option Nat} {o : Oper} (hd : ∀ c, o.op ≠ .defer c) {Q : Exit → Act → World → Prop} {K : AV → St → Prop} {l : Nat} {args : List AV} {vs : Array Value} (hrun : (execOp a.eval o).run P W = (Instr.yield l vs).run P W)
    (h : Rel B I st W) (ha : RepL I args vs.toList) (hz : Z.le I) (hk : VYield P Z l args st K) : o.wpIn (FR ro) 0 P a W (After B I a o.dst K) Q := by
  obtain ⟨fn, tmps, assign, body, h1, h2⟩ := hk B I W vs hz h ha
  refine ⟨fun f _ => trivial, ?_⟩
  rw [Oper.semAt_eq _ _ _ hd, hrun, h1]
  refine ⟨fun e => by simp [FR, Fence.wide] at e, ?_⟩
  have c0 : RoundIn (FR ro) (0 - 1) P l fn tmps assign body W _ := h2
  exact RoundIn.mono c0 (fun e w' => by rintro ⟨u, J, st', v, rfl, hle, hr, hv, hk⟩; exact ⟨v, st', u, J, hle, hr, hv, rfl, hk⟩)
def VO.isPure : VO → Bool
  | .slc .. | .box _ | .alloc _ | .store .. | .app .. | .call .. | .callv .. | .isnil .. | .bad => false
  | _ => true
theorem vstep_val {Z : Im} {o : VO} {K : AV → St → Prop} (hp : o.isPure = true) (h : vstep P Z o fr st K) : ∃ v, vval o fr st = some v ∧ K v st := by
  cases o <;> first
    | (simp [VO.isPure] at hp; done)
    | exact optK_out h
theorem zip_range (us : List Value) (idx : List Nat) (h : idx = List.range us.length) : idx.zip us = (us.zipIdx 0).map fun x => (x.2, x.1) := by
  subst h
  rw [List.zipIdx_eq_zip_range']
  rw [List.range_eq_range']
  generalize 0 = k
  induction us generalizing k with
  | nil => rfl
  | cons u us ih => simp [List.range'_succ, ih (k + 1)]
theorem vstep_ok {Z : Im} {ro : Option Nat} {o : Oper} {vo : VO} {Q : Exit → Act → World → Prop} {K : AV → St → Prop} (hc : compOp P o = some vo) (h : Rel B I st W) (hf : FrRep I n fr a) (hz : Z.le I) (hk : vstep P Z vo fr st K) :
    o.wpIn (FR ro) 0 P a W (After B I a o.dst K) Q := by
  unfold compOp at hc
  split at hc
  case _ x ho => cases hc; exact hk.elim
  case _ t x ho => cases hc; exact hk.elim
  case _ x ho => -- move
    obtain ⟨e, he, rfl⟩ := Option.map_eq_some_iff.1 hc
    obtain ⟨v, hv, hk⟩ := vstep_val rfl hk
    cases hv
    exact wpIn_value (fun c e => by rw [ho] at e; cases e) (by simp [execOp, ho]) (Im.le.refl _) h (compE_ok hf he) hk
  case _ x ho => -- assign
    obtain ⟨e, he, rfl⟩ := Option.map_eq_some_iff.1 hc
    obtain ⟨v, hv, hk⟩ := vstep_val rfl hk
    cases hv
    exact wpIn_value (fun c e => by rw [ho] at e; cases e) (by simp [execOp, ho]) (Im.le.refl _) h (compE_ok hf he) hk
  case _ c x y ho => -- pick
    split at hc
    · rename_i ec ex ey h1 h2 h3
      cases hc
      obtain ⟨v, hv, hk⟩ := vstep_val rfl hk
      have r1 := compE_ok hf h1
      have r2 := compE_ok hf h2
      have r3 := compE_ok hf h3
      simp only [vval, vpick] at hv
      split at hv
      · rename_i t ht
        rw [ht] at r1; simp only [Rep] at r1
        cases hv
        refine wpIn_value (fun c e => by rw [ho] at e; cases e) (u := if t then a.eval x else a.eval y) (by simp [execOp, ho, r1, asBool]) (Im.le.refl _) h ?_ hk
        cases t
        · exact r3
        · exact r2
      · cases hv
    · cases hc
  case _ e ho => -- alloc
    split at hc
    · rename_i i hi
      split at hc
      · rename_i z hz
        obtain ⟨cs, hcs, rfl⟩ := Option.map_eq_some_iff.1 hc
        simp only [vstep] at hk
        obtain ⟨hno, hr⟩ := h.alloc e (toCells_ok (I := I) hcs)
        exact wpIn_value (fun c e => by rw [ho] at e; cases e) (u := .pointer (some ⟨W.heap.size, 0, none⟩)) (by simp [execOp, ho, Instr.alloc, zeroValue, typeInfo, hi, hz, newVar, newRow]) (Im.le.refl _) hr (by simp only [Rep]) (hk _ hno)
      · cases hc
    · cases hc
  case _ e x ho => -- box
    obtain ⟨ex, he, rfl⟩ := Option.map_eq_some_iff.1 hc
    simp only [vstep] at hk
    have r1 := (compE_ok hf he).cells' hk.1
    obtain ⟨hno, hr⟩ := h.alloc e r1
    exact wpIn_value (fun c e => by rw [ho] at e; cases e) (u := .pointer (some ⟨W.heap.size, 0, none⟩)) (by simp [execOp, ho, Instr.box, newVar, newRow]) (Im.le.refl _) hr (by simp only [Rep]) (hk.2 _ hno)
  case _ t parts ho => -- build
    split at hc
    · rename_i i hi
      split at hc
      · rename_i z place hz hpl
        split at hc
        · rename_i zc ps h1 h2
          cases hc
          obtain ⟨v, hv, hk⟩ := vstep_val rfl hk
          obtain ⟨cs', hfl, rfl⟩ := Option.map_eq_some_iff.1 hv
          obtain ⟨hl, hp⟩ := compParts_ok hf h2
          obtain ⟨vs', hvs, hr⟩ := fill_ok (I := I) place (parts.toList.map fun (i, x) => (i, a.eval x)) (ps.map fun (o, n, x) => (o, n, x.ev fr)) zc cs' z.cells (toCells_ok h1) (by simpa using hl) hp hfl
          have hb : P.built t (parts.map fun (i, x) => (i, a.eval x)).toList = some vs' := by
            rw [built_of hi hz hpl]; simpa using hvs
          refine wpIn_value (fun c e => by rw [ho] at e; cases e) (u := .agg vs') ?_ (Im.le.refl _) h (by simp only [Rep]; exact ⟨vs', rfl, hr⟩) hk
          simp only [execOp, ho, Sem.run_bind, run_build W t _ _ hb, Result.andThen_ok, Sem.run_pure]
        · cases hc
      · cases hc
    · cases hc
  case _ t len parts ho => -- buildSlice
    split at hc
    · rename_i e hu
      split at hc
      · rename_i i hi
        split at hc
        · rename_i hcond
          obtain ⟨es, hes, rfl⟩ := Option.map_eq_some_iff.1 hc
          obtain ⟨v, hv, hk⟩ := vstep_val rfl hk
          obtain ⟨hz, hp, hsm, hidx⟩ := hcond
          have hr := compEs_ok hf hes
          have hlen : parts.toList.length = len := by
            have := congrArg List.length hidx; simpa using this
          obtain ⟨u, W', J, h1, h2, h3, h4⟩ := bsl_ok h hu hi hz hp hsm hr (by simp only [List.length_map]; exact hlen) hv
          have hparts : parts.map (fun (i, x) => (i, a.eval x)) = ((((parts.toList.map (·.2)).map a.eval).zipIdx 0).map fun x => (x.2, x.1)).toArray := by
            apply Array.ext'
            rw [← zip_range _ (parts.toList.map (·.1)) (by rw [hidx]; simp [hlen])]
            rw [List.map_map, List.zip_map']
            simp
          refine wpIn_value (fun c e => by rw [ho] at e; cases e) (u := u) ?_ h2 h3 h4 hk
          have : (execOp a.eval o).run P W = ((Instr.buildSlice t len (parts.map fun (i, x) => (i, a.eval x))).run P W).andThen fun v w => .ok (.value v) w := by
            simp [execOp, ho]
          rw [this, hparts, h1]; rfl
        · cases hc
      · cases hc
    · cases hc
  case _ t x ho => -- load
    split at hc
    · rename_i d i e hu hi he
      cases hc
      obtain ⟨v, hv, hk⟩ := vstep_val rfl hk
      obtain ⟨z, hz, hrz⟩ := vload_ok h hu hi (compE_ok hf he) hv
      exact wpIn_value (fun c e => by rw [ho] at e; cases e) (by simp only [execOp, ho, Sem.run_bind, hz, Result.andThen_ok, Sem.run_pure]) (Im.le.refl _) h hrz hk
    · cases hc
  case _ t x y ho => -- store
    split at hc
    · rename_i i e f hi he hf'
      cases hc
      simp only [vstep] at hk
      split at hk
      · rename_i b off hx
        split at hk
        · rename_i cs hcs
          obtain ⟨h1, h2, h3, h4, hk⟩ := hk
          have r1 := compE_ok hf he
          rw [hx] at r1; simp only [Rep] at r1
          have r2 := (compE_ok hf hf').cells' (by omega)
          have hul : (a.eval y).cells.size = i.size := by have := r2.length; simp at this; omega
          obtain ⟨vs, ty, hb, hr⟩ := h.cells b cs hcs
          have hst := h.store hcs r2 (by rw [h1]; exact h3)
          rw [h1] at hst
          have hthere : W.there b off (a.eval y).cells.size := fun j hj => by
            have hvl : vs.size = cs.length := by have := hr.length; simpa using this
            exact ⟨by rw [cell_of hb]; have : off + j < vs.size := by omega
                      simp [this], by simp [World.frozen?, hb]⟩
          have hone := all_one r2 h4
          have hrun : (Instr.storeAt t (a.eval x) (a.eval y)).run P W = .ok () (W.setCells b off (a.eval y).cells.toList) := by
            have hs := run_storeCells_cells (P := P) b off (a.eval y).cells.toList 0 W (fun j hj => by simpa using (hthere j (by simpa using hj)).1) (fun j hj => by simpa using (hthere j (by simpa using hj)).2) hone
            simp only [Nat.add_zero] at hs
            simp only [Instr.storeAt, r1, Instr.sureAddr, Sem.run_bind, Sem.run_pure, Result.andThen_ok, storeVar, sizeOf, typeInfo, run_program, hi, hul]
            simpa using hs
          refine ⟨fun f _ => trivial, ?_⟩
          rw [Oper.semAt_eq _ _ _ (fun c e => by rw [ho] at e; cases e)]
          have : (execOp a.eval o).run P W = .ok .skip (W.setCells b off (a.eval y).cells.toList) := by
            simp only [execOp, ho, Sem.run_bind, hrun, Result.andThen_ok, Sem.run_pure]
          rw [this]
          exact ⟨.no, _, Go.undef, I, Im.le.refl _, hst, by simp only [Rep], rfl, hk⟩
        · exact hk.elim
      · exact hk.elim
    · cases hc
  case _ x ho => -- nilCheck
    obtain ⟨e, he, rfl⟩ := Option.map_eq_some_iff.1 hc
    obtain ⟨v, hv, hk⟩ := vstep_val rfl hk
    obtain ⟨rfl, hrun⟩ := vnchk_ok (P := P) (W := W) (compE_ok hf he) hv
    exact wpIn_value (fun c e => by rw [ho] at e; cases e) (hrun a.eval o x ho rfl) (Im.le.refl _) h (compE_ok hf he) hk
  case _ op t x y yt ho => -- binOp
    have hd : ∀ c, o.op ≠ .defer c := fun c e => by rw [ho] at e; cases e
    split at hc
    · rename_i e f he hf'
      have r1 := compE_ok hf he
      have r2 := compE_ok hf hf'
      have plain : ∀ {v : AV}, vbin op (e.ev fr) (f.ev fr) = some v → K v st → o.wpIn (FR ro) 0 P a W (After B I a o.dst K) Q := fun {v} hv hk => by
        obtain ⟨z, hz, hrz⟩ := vbin_ok (W := W) (P := P) (t := t) (x := x) (y := y) r1 r2 hv
        exact wpIn_value hd (by simp only [execOp, ho]; rw [Sem.run_bind, hz]; rfl) (Im.le.refl _) h hrz hk
      split at hc
      · rename_i fs hu
        split at hc
        · rename_i hg
          have main : ∀ (neg : Bool) (ks : List Nat), eqShape P 8 t = some ks → (op = .eql ∧ neg = false ∨ op = .neq ∧ neg = true) → vstep P Z (.eqs neg ks e f) fr st K → o.wpIn (FR ro) 0 P a W (After B I a o.dst K) Q := fun neg ks hks hop hk => by
            obtain ⟨v, hv, hk⟩ := vstep_val rfl hk
            simp only [vval, veqs] at hv
            split at hv
            · rename_i cs ds hx hy
              split at hv
              · rename_i r hr
                cases hv
                rw [hx] at r1; rw [hy] at r2
                simp only [Rep] at r1 r2
                obtain ⟨vs, hvs, hrv⟩ := r1
                obtain ⟨us, hus, hru⟩ := r2
                obtain ⟨_, heq⟩ := equalIn_ok (I := I) (W := W) 8 9992 t ks hks _ hu
                have hrun := heq cs ds vs.toList us.toList hrv hru r hr
                simp only [TypeDesc.isRow, mkVal, if_true, Array.toArray_toList] at hrun
                refine wpIn_value hd (u := .bool (if neg then !r else r)) ?_ (Im.le.refl _) h (by simp only [Rep]) hk
                simp only [execOp, ho, hvs, hus]
                have hguard := run_eqGuard_agg (P := P) W op t x y vs us hg
                rcases hop with ⟨rfl, rfl⟩ | ⟨rfl, rfl⟩
                · rw [Sem.run_bind, Sem.run_bind, hguard]
                  simp only [Result.andThen_ok]
                  rw [run_eql_struct, hrun]; rfl
                · rw [Sem.run_bind, Sem.run_bind, hguard]
                  simp only [Result.andThen_ok]
                  rw [run_neq_struct, hrun]; rfl
              · cases hv
            · cases hv
          split at hc
          · rename_i ks hks; cases hc; exact main false ks hks (.inl ⟨rfl, rfl⟩) hk
          · rename_i ks hks; cases hc; exact main true ks hks (.inr ⟨rfl, rfl⟩) hk
          · cases hc
        · cases hc
      · cases hc; obtain ⟨v, hv, hk⟩ := vstep_val rfl hk; exact plain hv hk
      · cases hc; obtain ⟨v, hv, hk⟩ := vstep_val rfl hk; exact plain hv hk
      · rename_i hu
        have main : ∀ (neg : Bool), (op = .eql ∧ neg = false ∨ op = .neq ∧ neg = true) → vstep P Z (.eqs1 neg e f) fr st K → o.wpIn (FR ro) 0 P a W (After B I a o.dst K) Q := fun neg hop hk => by
          obtain ⟨v, hv, hk⟩ := vstep_val rfl hk
          simp only [vval, veqs1] at hv
          split at hv
          · rename_i p q hx hy
            cases hv
            rw [hx] at r1; rw [hy] at r2
            simp only [Rep] at r1 r2
            refine wpIn_value hd (u := .bool (if neg then !(p == q) else p == q)) ?_ (Im.le.refl _) h (by simp only [Rep]) hk
            have heq : (Op.equal t (.bool p) (.bool q)).run P W = .ok (p == q) W := run_equalIn_bool' W 9999 t p q hu
            rcases hop with ⟨rfl, rfl⟩ | ⟨rfl, rfl⟩
            · simp [execOp, ho, r1, r2, eqGuard, binOp, heq]
            · simp [execOp, ho, r1, r2, eqGuard, binOp, heq]
          · cases hv
        split at hc
        · cases hc; exact main false (.inl ⟨rfl, rfl⟩) hk
        · cases hc; exact main true (.inr ⟨rfl, rfl⟩) hk
        · cases hc
      · rename_i el hu
        have main : ∀ (neg : Bool), (op = .eql ∧ neg = false ∨ op = .neq ∧ neg = true) → y = .const (.slice none 0 0) → vstep P Z (.isnil neg e) fr st K → o.wpIn (FR ro) 0 P a W (After B I a o.dst K) Q := fun neg hop hy hk => by
          simp only [vstep] at hk
          split at hk
          · rename_i xs tk hx
            rw [hx] at r1; unfold Rep at r1
            obtain ⟨ad, c, sz, e1, q1, q2, q3, q4, q5⟩ := r1
            have hb : xs ≠ [] → ad.isNone = false := fun hne => by
              rcases q3 with h3 | ⟨b, o', e2, _⟩
              · exact absurd h3 hne
              · rw [e2]; rfl
            refine wpIn_value hd (u := .bool (if neg then !ad.isNone else ad.isNone)) ?_ (Im.le.refl _) h (by simp only [Rep]) (hk ad.isNone hb)
            have ey : a.eval y = .slice none 0 0 := by rw [hy]; rfl
            have heq := run_equal_slice_nil (P := P) W t el ad xs.length c hu
            rcases hop with ⟨rfl, rfl⟩ | ⟨rfl, rfl⟩
            · simp [execOp, ho, e1, ey, eqGuard, binOp, heq]
            · simp [execOp, ho, e1, ey, eqGuard, binOp, heq]
          · exact hk.elim
        split at hc
        · cases hc; exact main false (.inl ⟨rfl, rfl⟩) rfl hk
        · cases hc; exact main true (.inr ⟨rfl, rfl⟩) rfl hk
        · cases hc
      · cases hc
    · cases hc
  case _ op t x ho => -- unOp
    obtain ⟨e, he, rfl⟩ := Option.map_eq_some_iff.1 hc
    obtain ⟨v, hv, hk⟩ := vstep_val rfl hk
    obtain ⟨z, hz, hrz⟩ := vun_ok (P := P) (W := W) (compE_ok hf he) hv
    exact wpIn_value (fun c e => by rw [ho] at e; cases e) (by simp only [execOp, ho, Sem.run_bind, hz, Result.andThen_ok, Sem.run_pure]) (Im.le.refl _) h hrz hk
  case _ s d x ho => -- convert
    split at hc
    · rename_i ks k e hs hd he
      cases hc
      obtain ⟨v, hv, hk⟩ := vstep_val rfl hk
      obtain ⟨z, hz, hrz⟩ := vconv_ok (W := W) hs hd (compE_ok hf he) hv
      exact wpIn_value (fun c e => by rw [ho] at e; cases e) (by simp only [execOp, ho, Sem.run_bind, hz, Result.andThen_ok, Sem.run_pure]) (Im.le.refl _) h hrz hk
    · cases hc
  case _ f fs cs ho => -- makeFunc
    split at hc
    · rename_i es ds h1 h2
      cases hc
      obtain ⟨v, hv, hk⟩ := vstep_val rfl hk
      cases hv
      refine wpIn_value (fun c e => by rw [ho] at e; cases e) (u := .func (.func f) (fs.map a.eval) (cs.map a.eval)) (by simp [execOp, ho, Instr.makeFunc]) (Im.le.refl _) h ?_ hk
      simp only [Rep]
      exact ⟨_, _, rfl, by simpa using compEs_ok hf h1, by simpa using compEs_ok hf h2⟩
    · cases hc
  case _ t x lo hi mx ho => -- slice
    split at hc
    · rename_i el hu
      split at hc
      · rename_i i hi'
        split at hc
        · rename_i e l hh m h1 h2 h3 h4
          cases hc
          simp only [vstep] at hk
          obtain ⟨hsz, hk⟩ := hk
          obtain ⟨v, hv, hk⟩ := optK_out hk
          obtain ⟨z, hz, hrz⟩ := slice_ok (W := W) hf hu hi' h1 h2 h3 h4 hv (fun hs xs tk hx => by
            have hl : l.isSome = true := by
              cases lo with
              | none => cases hs
              | some y => simp only [compO, Option.map_eq_some_iff] at h2; obtain ⟨e', _, rfl⟩ := h2; rfl
            have := hsz hl
            rw [hx] at this
            exact this)
          exact wpIn_value (fun c e => by rw [ho] at e; cases e) (by simp only [execOp, ho, Sem.run_bind, hz, Result.andThen_ok, Sem.run_pure]) (Im.le.refl _) h hrz hk
        · cases hc
      · cases hc
    · cases hc
  case _ t x f ho => -- fieldAddr
    split at hc
    · rename_i fs e hu he
      split at hc
      · rename_i fd hfd
        split at hc
        · rename_i i hi
          split at hc
          · rename_i h0
            cases hc
            obtain ⟨v, hv, hk⟩ := vstep_val rfl hk
            obtain ⟨z, hz, hrz⟩ := vfad_ok (W := W) hu hfd hi h0 (compE_ok hf he) hv
            exact wpIn_value (fun c e => by rw [ho] at e; cases e) (by simp only [execOp, ho, Sem.run_bind, hz, Result.andThen_ok, Sem.run_pure]) (Im.le.refl _) h hrz hk
          · cases hc
        · cases hc
      · cases hc
    · cases hc
  case _ t x f ho => -- field
    split at hc
    · rename_i fs e hu he
      split at hc
      · rename_i fd hfd
        split at hc
        · rename_i d i hd hi
          cases hc
          obtain ⟨v, hv, hk⟩ := vstep_val rfl hk
          obtain ⟨z, hz, hrz⟩ := vfld_ok (W := W) hu hfd hd hi (compE_ok hf he) hv
          exact wpIn_value (fun c e => by rw [ho] at e; cases e) (by simp only [execOp, ho, Sem.run_bind, hz, Result.andThen_ok, Sem.run_pure]) (Im.le.refl _) h hrz hk
        · cases hc
      · cases hc
    · cases hc
  case _ t x y ho => -- indexAddr
    split at hc
    · rename_i e ex ey hu h1 h2
      split at hc
      · rename_i i hi
        cases hc
        obtain ⟨v, hv, hk⟩ := vstep_val rfl hk
        obtain ⟨z, hz, hrz⟩ := viad_ok (W := W) hu hi (compE_ok hf h1) (compE_ok hf h2) hv
        exact wpIn_value (fun c e => by rw [ho] at e; cases e) (by simp only [execOp, ho, Sem.run_bind, hz, Result.andThen_ok, Sem.run_pure]) (Im.le.refl _) h hrz hk
      · cases hc
    · rename_i len e ex ey hu h1 h2
      split at hc
      · rename_i i hi
        cases hc
        obtain ⟨v, hv, hk⟩ := vstep_val rfl hk
        obtain ⟨z, hz, hrz⟩ := viaa_ok (W := W) hu hi (compE_ok hf h1) (compE_ok hf h2) hv
        exact wpIn_value (fun c e => by rw [ho] at e; cases e) (by simp only [execOp, ho, Sem.run_bind, hz, Result.andThen_ok, Sem.run_pure]) (Im.le.refl _) h hrz hk
      · cases hc
    · cases hc
  case _ t x y ho => -- index
    split at hc
    · rename_i len e ex ey hu h1 h2
      split at hc
      · rename_i d i hd hi
        cases hc
        obtain ⟨v, hv, hk⟩ := vstep_val rfl hk
        obtain ⟨z, hz, hrz⟩ := vixa_ok (W := W) hu hd hi (compE_ok hf h1) (compE_ok hf h2) hv
        exact wpIn_value (fun c e => by rw [ho] at e; cases e) (by simp only [execOp, ho, Sem.run_bind, hz, Result.andThen_ok, Sem.run_pure]) (Im.le.refl _) h hrz hk
      · cases hc
    · rename_i ex ey hu h1 h2
      cases hc
      obtain ⟨v, hv, hk⟩ := vstep_val rfl hk
      obtain ⟨z, hz, hrz⟩ := vixs_ok (W := W) hu (compE_ok hf h1) (compE_ok hf h2) hv
      exact wpIn_value (fun c e => by rw [ho] at e; cases e) (by simp only [execOp, ho, Sem.run_bind, hz, Result.andThen_ok, Sem.run_pure]) (Im.le.refl _) h hrz hk
    · cases hc
  case _ x i ho => -- extract
    obtain ⟨e, he, rfl⟩ := Option.map_eq_some_iff.1 hc
    obtain ⟨v, hv, hk⟩ := vstep_val rfl hk
    obtain ⟨z, hz, hrz⟩ := vext_ok (P := P) (W := W) (compE_ok hf he) hv
    exact wpIn_value (fun c e => by rw [ho] at e; cases e) (by simp only [execOp, ho, Sem.run_bind, hz, Result.andThen_ok, Sem.run_pure]) (Im.le.refl _) h hrz hk
  case _ c ho => -- call
    have hd : ∀ c, o.op ≠ .defer c := fun c e => by rw [ho] at e; cases e
    split at hc
    case _ f hcal =>
      obtain ⟨es, hes, rfl⟩ := Option.map_eq_some_iff.1 hc
      simp only [vstep] at hk
      have ha := compEs_ok hf hes
      refine wpIn_calls hd (f := f) (vs := c.args.map a.eval) ?_ h (by simpa using ha) hz hk
      simp [execOp, ho, resolve, hcal, Act.eval, Deferred.ofValue, invoke, hk.1]
    case _ g hno hcal =>
      split at hc
      · rename_i e es he hes
        cases hc
        simp only [vstep] at hk
        have hg := compE_ok hf he
        have ha := compEs_ok hf hes
        split at hk
        · rename_i f fs cs hx
          rw [hx] at hg; simp only [Rep] at hg
          obtain ⟨us, vs, hgv, h1, h2⟩ := hg
          refine wpIn_calls hd (f := f) (vs := us ++ c.args.map a.eval ++ vs) ?_ h (by simpa using (h1.append ha).append h2) hz hk
          simp [execOp, ho, resolve, hcal, hgv, Deferred.ofValue, invoke, hk.1]
        · rename_i l hx
          rw [hx] at hg; simp only [Rep] at hg
          refine wpIn_yield hd (vs := c.args.map a.eval) ?_ h (by simpa using ha) hz hk
          simp [execOp, ho, resolve, hcal, hg, Deferred.ofValue, invoke]
        · exact hk.elim
      · cases hc
    case _ hcal =>
      split at hc
      · rename_i x t hx ht
        have hargs : c.args = #[x] := Array.ext' (by simpa using hx)
        have htys : c.argTypes = #[t] := Array.ext' (by simpa using ht)
        split at hc
        · rename_i el e hu he
          cases hc
          obtain ⟨v, hv, hk⟩ := vstep_val rfl hk
          obtain ⟨z, hz, hrz⟩ := vlen_ok (W := W) (ty := o.type) hu (compE_ok hf he) hv
          refine wpIn_value hd ?_ (Im.le.refl _) h hrz hk
          simp [execOp, ho, resolve, hcal, invoke, builtin, hargs, htys, hz]
        · rename_i e hu he
          cases hc
          obtain ⟨v, hv, hk⟩ := vstep_val rfl hk
          obtain ⟨z, hz, hrz⟩ := vlens_ok (W := W) (ty := o.type) hu (compE_ok hf he) hv
          refine wpIn_value hd ?_ (Im.le.refl _) h hrz hk
          simp [execOp, ho, resolve, hcal, invoke, builtin, hargs, htys, hz]
        · cases hc
      · cases hc
    case _ hcal =>
      split at hc
      · rename_i x xs hx
        cases hc
        obtain ⟨v, hv, hk⟩ := vstep_val rfl hk
        have ha := compEs_ok hf hx
        cases hargs : c.args.toList with
        | nil => rw [hargs] at ha; exact ha.elim
        | cons y ys =>
          rw [hargs] at ha
          obtain ⟨z, hz, hrz⟩ := vmnx_ok (P := P) (W := W) true _ _ _ _ _ ha.2 ha.1 hv
          have hargs' : c.args = (y :: ys).toArray := Array.ext' (by simpa using hargs)
          refine wpIn_value hd ?_ (Im.le.refl _) h hrz hk
          simp only [if_true] at hz
          simp [execOp, ho, resolve, hcal, invoke, builtin, hargs', Builtin.min_, hz]
      · cases hc
    case _ hcal =>
      split at hc
      · rename_i x xs hx
        cases hc
        obtain ⟨v, hv, hk⟩ := vstep_val rfl hk
        have ha := compEs_ok hf hx
        cases hargs : c.args.toList with
        | nil => rw [hargs] at ha; exact ha.elim
        | cons y ys =>
          rw [hargs] at ha
          obtain ⟨z, hz, hrz⟩ := vmnx_ok (P := P) (W := W) false _ _ _ _ _ ha.2 ha.1 hv
          have hargs' : c.args = (y :: ys).toArray := Array.ext' (by simpa using hargs)
          refine wpIn_value hd ?_ (Im.le.refl _) h hrz hk
          simp only [Bool.false_eq_true, if_false] at hz
          simp [execOp, ho, resolve, hcal, invoke, builtin, hargs', Builtin.max_, hz]
      · cases hc
    case _ hcal =>
      split at hc
      · rename_i x y t t' hx ht
        have hargs : c.args = #[x, y] := Array.ext' (by simpa using hx)
        have htys : c.argTypes = #[t, t'] := Array.ext' (by simpa using ht)
        split at hc
        · rename_i htt
          subst htt
          split at hc
          · rename_i el ex ey hu h1 h2
            split at hc
            · rename_i i hi
              split at hc
              · rename_i hcond
                cases hc
                obtain ⟨hp, hzs, hzz⟩ := hcond
                obtain ⟨z, hz'⟩ := Option.isSome_iff_exists.1 hzs
                simp only [vstep] at hk
                have r1 := compE_ok hf h1
                have r2 := compE_ok hf h2
                have hzs' : z.cells.size = i.size := by rw [hz'] at hzz; simpa using hzz
                rcases hk with hk | hk
                · unfold appA at hk
                  split at hk
                  · rename_i xs tk ys t2 e1 e2
                    rw [e1] at r1; rw [e2] at r2
                    obtain ⟨k1, k2, k3, k4, k5, hk⟩ := hk
                    obtain ⟨t', v, W', J, q1, q2, q3, q4, q5⟩ := append_ok h (ty := o.type) hu hi hz' hzs' hp r1 r2 k1 k2 k3 k4 k5
                    refine wpIn_value hd (u := v) ?_ q2 q4 q5 (hk t' q3)
                    simp [execOp, ho, resolve, hcal, invoke, builtin, hargs, htys, q1]
                  · exact hk.elim
                · unfold appB at hk
                  split at hk
                  · rename_i xs ys t2 e1 e2
                    rw [e1] at r1; rw [e2] at r2
                    obtain ⟨k1, k2, k3, k4, k5, hk⟩ := hk
                    obtain ⟨b, c, v, W', q1, q2, q3, q4, q5⟩ := append_new h (ty := o.type) hu hi hz' hzs' hp r1 r2 k1 k2 k3 k4 k5
                    refine wpIn_value hd (u := v) ?_ (Im.le.refl _) q4 q5 (hk b c _ q2 q3 (by simp))
                    simp [execOp, ho, resolve, hcal, invoke, builtin, hargs, htys, q1]
                  · rename_i b n c ys t2 e1 e2
                    rw [e1] at r1; rw [e2] at r2
                    obtain ⟨cs, k1, k2, k3, k4, k5, hk⟩ := hk
                    obtain ⟨b', c', rest, v, W', q1, q2, q3, q4, q5, q6⟩ := append_osl h (ty := o.type) hu hi hz' hzs' hp r1 k1 k2 r2 k3 k4 k5
                    refine wpIn_value hd (u := v) ?_ (Im.le.refl _) q5 q6 (hk b' c' rest q2 q3 q4)
                    simp [execOp, ho, resolve, hcal, invoke, builtin, hargs, htys, q1]
                  · exact hk.elim
              · cases hc
            · cases hc
          · cases hc
        · cases hc
      · cases hc
    · cases hc
  · cases hc
end
end Go.Proofs.Ytddbnncimggogaa.V
end
section
set_option linter.unusedSimpArgs false
set_option linter.unusedVariables false
/- Rows of operations; orders that are drawn. -/
namespace Go.Proofs.Ytddbnncimggogaa.V
open Go Go.RowKit
structure VOp where
  dst : Option Nat
  op : VO
  guard : Option (Nat × Bool)
  pre : List Nat
  ap : List (Nat × Nat)
  deriving Inhabited
def Fr.put (fr : Fr) (dst : Option Nat) (v : AV) : Fr := match dst with | none => fr | some d => { fr with t := fun i => if i = d then v else fr.t i }
/-- Is an operation to be done? -/
def gd (g : Option (Nat × Bool)) (fr : Fr) : Option Bool := match g with
  | none => some true
  | some (t, want) => match fr.t t with
    | .bool b => some (b == want)
    | .no => some false
    | _ => none
section
variable (P : Program) (Z : Im)
def vop (o : VOp) (K : Fr → St → Prop) (fr : Fr) (st : St) : Prop :=
  match gd o.guard fr with
  | some b => (b = true → vstep P Z o.op fr st (fun v st' => K (fr.put o.dst v) st')) ∧ (b = false → K (fr.put o.dst .no) st)
  | none => False
def vops : List VOp → (Fr → St → Prop) → Fr → St → Prop
  | [], K, fr, st => K fr st
  | o :: r, K, fr, st => vop P Z o (vops r K) fr st
end
def dstOk (n : Nat) (d : Option Tmp) : Bool := match d with | some d => decide (d < n) | none => true
def compG (n : Nat) (ops : Array Oper) (g : Option (Nat × Bool)) : Option (Option (Nat × Bool)) := match g with
  | none => some none
  | some (j, want) => match (ops[j]?).bind (·.dst) with
    | some g => if g < n then some (some (g, want)) else none
    | none => none
def compOps (P : Program) (n : Nat) (ops : Array Oper) : List Oper → Option (List VOp)
  | [] => some []
  | o :: r => match compOp P o, compOps P n ops r, compG n ops o.guard, dstOk n o.dst with
    | some vo, some vs, some g, true => some (⟨o.dst, vo, g, (o.after.toList.filter (Region.binds .any)).map (·.on), []⟩ :: vs)
    | _, _, _, _ => none
variable {P : Program}
section
variable {B : Base} {I : Im} {st : St} {W : World} {fr : Fr} {a : Act} {n : Nat}
theorem FrRep.put (hf : FrRep I n fr a) {J : Im} (hle : I.le J) {dst : Option Tmp} (hd : ∀ d, dst = some d → d < n) {v : AV} {u : Value} (hv : Rep J v u) : FrRep J n (fr.put dst v) (a.put dst u) := by
  cases dst with
  | none => exact ⟨hf.size, fun i => (hf.rep i).mono hle, hf.defs⟩
  | some d =>
    have hd := hd d rfl
    refine ⟨by simp [Act.put, hf.size], fun i => ?_, hf.defs⟩
    simp only [Fr.put, Act.eval, Act.put]
    by_cases hi : i = d
    · subst hi
      have : i < a.tmps.size := by rw [hf.size]; exact hd
      simp only [if_true]
      rw [Array.getD_eq_getD_getElem?, Array.getElem?_setIfInBounds_self_of_lt this]
      exact hv
    · rw [if_neg hi]
      have := (hf.rep i).mono hle
      simp only [Act.eval] at this
      rw [Array.getD_eq_getD_getElem?] at this ⊢
      rw [Array.getElem?_setIfInBounds_ne (fun e => hi e.symm)]
      exact this
structure Fits (P : Program) (n : Nat) (ops : Array Oper) (o : Oper) (v : VOp) : Prop where
  op : compOp P o = some v.op
  dst : v.dst = o.dst
  lt : ∀ d, o.dst = some d → d < n
  guard : (o.guard = none ∧ v.guard = none) ∨ ∃ j want g, o.guard = some (j, want) ∧ v.guard = some (g, want) ∧ (ops[j]?).bind (·.dst) = some g ∧ g < n
  pre : v.pre = (o.after.toList.filter (Region.binds .any)).map (·.on)
theorem compOps_ok {ops : Array Oper} : ∀ {l : List Oper} {vs : List VOp}, compOps P n ops l = some vs → vs.length = l.length ∧ ∀ (i : Nat) o v, l[i]? = some o → vs[i]? = some v → Fits P n ops o v
  | [], vs, h => by simp [compOps] at h; subst h; simp
  | o :: r, vs, h => by
    unfold compOps at h
    split at h
    · rename_i vo vs' g h1 h2 h3 h4
      obtain ⟨hl, hr⟩ := compOps_ok h2
      cases h
      refine ⟨by simp [hl], fun i o' v hi hv => ?_⟩
      cases i with
      | succ i => exact hr i o' v (by simpa using hi) (by simpa using hv)
      | zero =>
        simp at hi hv; subst hi hv
        refine ⟨h1, rfl, fun d e => by rw [e] at h4; simpa [dstOk] using h4, ?_, rfl⟩
        unfold compG at h3
        split at h3
        · rename_i hg; cases h3; exact .inl ⟨hg, rfl⟩
        · rename_i j want hg
          split at h3
          · rename_i g' hgj
            obtain ⟨hlt, rfl⟩ := ite_some h3
            exact .inr ⟨j, want, g', hg, rfl, hgj, hlt⟩
          · cases h3
    · cases h
theorem wanted_of (hf : FrRep I n fr a) {ops : Array Oper} {o : Oper} {v : VOp} (h : Fits P n ops o v) {b : Bool} (hg : gd v.guard fr = some b) : Region.wanted o (yielded ops a.tmps) = b := by
  rcases h.guard with ⟨h1, h2⟩ | ⟨j, want, g, h1, h2, h3, h4⟩
  · rw [h2] at hg; simp [gd] at hg; subst hg; simp [Region.wanted, h1]
  · rw [h2] at hg
    simp only [gd] at hg
    have hr := hf.rep g
    have hlt : g < a.tmps.size := by rw [hf.size]; exact h4
    have hget : a.eval (.tmp g) = a.tmps[g] := by simp [Act.eval, hlt]
    split at hg
    · rename_i bb hb
      rw [hb] at hr; simp only [Rep] at hr
      cases hg
      have : a.tmps[g]? = some (.bool bb) := by rw [Array.getElem?_eq_getElem hlt, ← hget, hr]
      simp only [Region.wanted, h1, yielded, h3, Option.bind_some, this]
      cases bb <;> cases want <;> rfl
    · rename_i hb
      rw [hb] at hr; simp only [Rep] at hr
      cases hg
      have : a.tmps[g]? = some Go.undef := by rw [Array.getElem?_eq_getElem hlt, ← hget, hr]
      simp only [Region.wanted, h1, yielded, h3, Option.bind_some, this, Go.undef]
      cases want <;> rfl
    · cases hg
theorem vops_ok {Z : Im} {ro : Option Nat} {ops : Array Oper} {cl : List VOp} (hcl : ∀ (i : Nat) o, ops[i]? = some o → ∃ v, cl[i]? = some v ∧ Fits P n ops o v) {Q : Exit → Act → World → Prop} {K : Fr → St → Prop} :
    ∀ (l : List Nat) (I : Im) (fr : Fr) (st : St) (a : Act) (W : World), (∀ i ∈ l, i < ops.size) → Z.le I → vops P Z (l.filterMap (cl[·]?)) K fr st → Rel B I st W → FrRep I n fr a →
      (∀ J fr' st' a' W', I.le J → Rel B J st' W' → FrRep J n fr' a' → K fr' st' → Q .normal a' W') → wpOpsIn (FR ro) 0 P ops Q l a W
  | [], I, fr, st, a, W, _, _, hv, h, hf, hq => hq I fr st a W (Im.le.refl _) h hf hv
  | i :: l, I, fr, st, a, W, hl, hz, hv, h, hf, hq => by
    have hi := hl i (by simp)
    obtain ⟨v, hv1, hfit⟩ := hcl i _ (Array.getElem?_eq_getElem hi)
    rw [List.filterMap_cons_some hv1] at hv
    simp only [vops, vop] at hv
    have hlt : ∀ d, v.dst = some d → d < n := fun d e => hfit.lt d (hfit.dst ▸ e)
    simp only [wpOpsIn, Array.getElem?_eq_getElem hi]
    split at hv
    · rename_i b hg
      have hw := wanted_of hf hfit hg
      cases b with
      | true =>
        rw [hw]
        simp only [if_true]
        refine Oper.wpIn_mono (fun a' W' => ?_) (vstep_ok (ro := ro) (Q := Q) hfit.op h hf hz (hv.1 rfl))
        rintro ⟨v', st', u, J, hle, hr, hvu, rfl, hk⟩
        rw [← hfit.dst]
        exact vops_ok hcl l J _ st' _ W' (fun j hj => hl j (by simp [hj])) (hz.trans hle) hk hr (hf.put hle hlt hvu) (fun J' fr' st'' a' W'' hle' => hq J' fr' st'' a' W'' (hle.trans hle'))
      | false =>
        rw [hw]
        simp only [Bool.false_eq_true, if_false]
        refine ⟨fun f _ => trivial, ?_⟩
        rw [← hfit.dst]
        exact vops_ok hcl l I _ st _ W (fun j hj => hl j (by simp [hj])) hz (hv.2 rfl) h (hf.put (Im.le.refl _) hlt (by simp only [Rep])) hq
    · exact hv.elim
end
end Go.Proofs.Ytddbnncimggogaa.V
end
section
set_option linter.unusedSimpArgs false
set_option linter.unusedVariables false
/- Orders that are drawn: what commutes. -/
namespace Go.Proofs.Ytddbnncimggogaa.V
open Go Go.RowKit
def VO.opnds : VO → List VE
  | .mov x | .nchk x | .un _ x | .conv _ x | .fad _ x | .fld _ _ _ x | .ext x _ | .len x | .lens x | .box x | .load _ _ x => [x]
  | .pick c a b => [c, a, b]
  | .build _ ps => ps.map (·.2.2)
  | .bsl _ xs => xs
  | .bin _ x y | .eqs _ _ x y | .eqs1 _ x y | .iad _ x y | .iaa _ _ x y | .ixa _ _ _ x y | .ixs x y | .store _ x y | .app _ _ x y => [x, y]
  | .mkf _ fs cs => fs ++ cs
  | .slc _ x lo hi mx => x :: (lo.toList ++ hi.toList ++ mx.toList)
  | .mnx _ x xs => x :: xs
  | .alloc _ => []
  | .isnil _ x => [x]
  | .bad => []
  | .call _ xs => xs
  | .callv g xs => g :: xs
def VE.rd : VE → Option Nat | .t i => some i | .c _ => none
def VOp.rd (o : VOp) : List Nat := o.op.opnds.filterMap VE.rd ++ ((match o.guard with | some (g, _) => [g] | none => []) ++ o.ap.map (·.2))
inductive Cls where | N | L | B | S | A | X
  deriving DecidableEq
def VO.cls : VO → Cls
  | .load .. => .L
  | .box _ | .alloc _ => .B
  | .store .. => .S
  | .app .. => .A
  | .isnil .. | .bad => .X
  | _ => .N
def VO.isCall : VO → Bool | .call .. | .callv .. => true | _ => false
def loadAp (o1 : VO) (ap : List (Nat × Nat)) : Bool := match o1 with | .load _ _ (.t i) => (ap.map (·.2)).contains i | _ => false
def clsOk (o1 o2 : VO) (ap : List (Nat × Nat)) : Bool := match o1.cls, o2.cls with
  | .N, .X => false
  | .N, _ => true
  | .L, .N | .L, .L | .L, .B | .L, .A => true
  | .L, .S => loadAp o1 ap
  | .S, .N => true
  | .A, .N | .A, .L => !o2.isCall
  | _, _ => false
def indep (o1 o2 : VOp) : Bool :=
  clsOk o1.op o2.op o2.ap && (match o1.dst with | some d => !o2.rd.contains d && o2.dst != some d | none => true) && (match o2.dst with | some d => !o1.rd.contains d | none => true)
section
variable (P : Program)
def VPure (f : Nat) (args : List AV) (v : AV) : Prop := ∀ (Z : Im) (st : St), VCalls P Z f args st (fun r st' => r = v ∧ st' = st)
variable (Z : Im)
def vstepD (o : VO) (fr : Fr) (st : St) (K : AV → St → Prop) : Prop :=
  match o with
  | .call f args => ∃ v, VPure P f (VE.evs fr args) v ∧ K v st
  | .callv g args => match g.ev fr with
    | .clo f fs cs => ∃ v, VPure P f (fs ++ VE.evs fr args ++ cs) v ∧ K v st
    | _ => False
  | .app sz bytes s x => appA (s.ev fr) (x.ev fr) sz bytes st K
  | o => vstep P Z o fr st K
/-- What is stored into lies apart from what is loaded from. -/
def apOk (o : VOp) (fr : Fr) : Prop := match o.op with
  | .store _ x _ => ∀ i ∈ o.ap.map (·.2), ∀ b off b' off', fr.t i = .ptr b off → x.ev fr = .ptr b' off' → b ≠ b'
  | _ => True
def vopD (o : VOp) (K : Fr → St → Prop) (fr : Fr) (st : St) : Prop :=
  match gd o.guard fr with
  | some b => (b = true → apOk o fr ∧ vstepD P Z o.op fr st (fun v st' => K (fr.put o.dst v) st')) ∧ (b = false → K (fr.put o.dst .no) st)
  | none => False
/-- An operation that stands where it stands in every order: marked. -/
def VOp.bar (o : VOp) : Bool := (match o.op with | .call .. | .callv .. | .app .. => true | _ => false) && !o.ap.isEmpty
def vopE (o : VOp) (K : Fr → St → Prop) (fr : Fr) (st : St) : Prop := if o.bar then vop P Z o K fr st else vopD P Z o K fr st
def vopsD : List VOp → (Fr → St → Prop) → Fr → St → Prop
  | [], K, fr, st => K fr st
  | o :: r, K, fr, st => vopE P Z o (vopsD r K) fr st
end
variable {P : Program} {Z : Im}
theorem optK_mono {x : Option AV} {K K' : AV → Prop} (h : optK x K) (hk : ∀ v, K v → K' v) : optK x K' := by
  cases x with
  | none => exact h
  | some v => exact hk v h
theorem vstep_mono {o : VO} {fr : Fr} {st : St} {K K' : AV → St → Prop} (h : vstep P Z o fr st K) (hk : ∀ v s, K v s → K' v s) : vstep P Z o fr st K' := by
  cases o <;> simp only [vstep] at h ⊢
  case box => exact ⟨h.1, fun b hb => hk _ _ (h.2 b hb)⟩
  case alloc => exact fun b hb => hk _ _ (h b hb)
  case slc => exact ⟨h.1, optK_mono h.2 (fun v => hk v st)⟩
  case store =>
    split at h
    · split at h
      · obtain ⟨h1, h2, h3, h4, h5⟩ := h; exact ⟨h1, h2, h3, h4, hk _ _ h5⟩
      · exact h
    · exact h
  case app => exact h.imp (appA_mono · hk) (appB_mono · hk)
  case call => exact h.mono hk
  case callv =>
    split at h
    · exact h.mono hk
    · exact VYield.mono h hk
    · exact h
  case isnil =>
    split at h
    · exact fun b hb => hk _ _ (h b hb)
    · exact h
  all_goals exact optK_mono h (fun v => hk v st)
theorem vstepD_mono {o : VO} {fr : Fr} {st : St} {K K' : AV → St → Prop} (h : vstepD P Z o fr st K) (hk : ∀ v s, K v s → K' v s) : vstepD P Z o fr st K' := by
  cases o
  case call => obtain ⟨v, h1, h2⟩ := h; exact ⟨v, h1, hk _ _ h2⟩
  case callv g args =>
    simp only [vstepD] at h ⊢
    split at h
    · obtain ⟨v, h1, h2⟩ := h; exact ⟨v, h1, hk _ _ h2⟩
    · exact h
  case app => exact appA_mono h hk
  all_goals (simp only [vstepD] at h ⊢; exact vstep_mono h hk)
theorem vstep_of_D {o : VO} {fr : Fr} {st : St} {K : AV → St → Prop} (h : vstepD P Z o fr st K) : vstep P Z o fr st K := by
  cases o
  case call => obtain ⟨v, h1, h2⟩ := h; exact (h1 Z st).mono (fun _ _ e => by rw [e.1, e.2]; exact h2)
  case callv g args =>
    simp only [vstepD] at h
    simp only [vstep]
    cases hg : g.ev fr <;> rw [hg] at h <;> simp only at h
    obtain ⟨v, h1, h2⟩ := h; exact (h1 Z st).mono (fun _ _ e => by rw [e.1, e.2]; exact h2)
  case app => exact .inl h
  all_goals exact h
theorem vopD_mono {o : VOp} {K K' : Fr → St → Prop} {fr : Fr} {st : St} (h : vopD P Z o K fr st) (hk : ∀ f s, K f s → K' f s) : vopD P Z o K' fr st := by
  unfold vopD at h ⊢
  split at h
  · exact ⟨fun e => ⟨(h.1 e).1, vstepD_mono (h.1 e).2 (fun _ _ => hk _ _)⟩, fun e => hk _ _ (h.2 e)⟩
  · exact h
theorem vop_of_D {o : VOp} {K : Fr → St → Prop} {fr : Fr} {st : St} (h : vopD P Z o K fr st) : vop P Z o K fr st := by
  unfold vopD at h; unfold vop
  cases hg : gd o.guard fr with
  | none => rw [hg] at h; exact h
  | some b => rw [hg] at h; exact ⟨fun e => vstep_of_D (h.1 e).2, h.2⟩
theorem vop_mono {o : VOp} {K K' : Fr → St → Prop} {fr : Fr} {st : St} (h : vop P Z o K fr st) (hk : ∀ f s, K f s → K' f s) : vop P Z o K' fr st := by
  unfold vop at h ⊢
  split at h
  · exact ⟨fun e => vstep_mono (h.1 e) (fun _ _ => hk _ _), fun e => hk _ _ (h.2 e)⟩
  · exact h
theorem vops_mono {K K' : Fr → St → Prop} (hk : ∀ f s, K f s → K' f s) : ∀ {l : List VOp} {fr : Fr} {st : St}, vops P Z l K fr st → vops P Z l K' fr st
  | [], _, _, h => hk _ _ h
  | _ :: _, _, _, h => vop_mono h (fun _ _ => vops_mono hk)
theorem vopE_mono {o : VOp} {K K' : Fr → St → Prop} {fr : Fr} {st : St} (h : vopE P Z o K fr st) (hk : ∀ f s, K f s → K' f s) : vopE P Z o K' fr st := by
  unfold vopE at h ⊢
  split at h
  · rename_i hb; rw [if_pos hb]; exact vop_mono h hk
  · rename_i hb; rw [if_neg hb]; exact vopD_mono h hk
theorem vop_of_E {o : VOp} {K : Fr → St → Prop} {fr : Fr} {st : St} (h : vopE P Z o K fr st) : vop P Z o K fr st := by
  unfold vopE at h
  split at h
  · exact h
  · exact vop_of_D h
theorem vopsD_mono {K K' : Fr → St → Prop} (hk : ∀ f s, K f s → K' f s) : ∀ {l : List VOp} {fr : Fr} {st : St}, vopsD P Z l K fr st → vopsD P Z l K' fr st
  | [], _, _, h => hk _ _ h
  | _ :: _, _, _, h => vopE_mono h (fun _ _ => vopsD_mono hk)
/-! ### Frames that agree where an operation looks -/
def Agree (xs : List VE) (fr fr' : Fr) : Prop := ∀ x ∈ xs, x.ev fr = x.ev fr'
theorem evs_congr {xs : List VE} {fr fr' : Fr} (h : Agree xs fr fr') : VE.evs fr xs = VE.evs fr' xs := List.map_congr_left h
theorem vval_congr {o : VO} {fr fr' : Fr} {st : St} (h : Agree o.opnds fr fr') : vval o fr st = vval o fr' st := by
  cases o <;> simp only [VO.opnds, Agree, List.mem_cons, List.not_mem_nil, or_false, forall_eq, forall_eq_or_imp, List.mem_append, Option.mem_toList, List.mem_map] at h <;> simp only [vval]
  case build z ps =>
    congr 2
    exact List.map_congr_left (fun q hq => by rw [h q.2.2 ⟨q, hq, rfl⟩])
  case bsl => rw [evs_congr h]
  case mkf => rw [evs_congr (fun x hx => h x (.inl hx)), evs_congr (fun x hx => h x (.inr hx))]
  case mnx => rw [h.1, evs_congr h.2]
  case slc sz x lo hi mx =>
    have e1 : ∀ (y : Option VE), (∀ z, y = some z → z.ev fr = z.ev fr') → y.map (·.ev fr) = y.map (·.ev fr') := fun y hy => by
      cases y with
      | none => rfl
      | some z => simp [hy z rfl]
    rw [h.1, e1 lo (fun z hz => h.2 z (.inl (.inl hz))), e1 hi (fun z hz => h.2 z (.inl (.inr hz))), e1 mx (fun z hz => h.2 z (.inr hz))]
  all_goals first
    | rfl
    | rw [h]
    | rw [h.1, h.2]
    | rw [h.1, h.2.1, h.2.2]
theorem vstepD_congr {o : VO} {fr fr' : Fr} {st : St} {K : AV → St → Prop} (h : Agree o.opnds fr fr') : vstepD P Z o fr st K ↔ vstepD P Z o fr' st K := by
  have hv := vval_congr (st := st) h
  cases o <;> simp only [VO.opnds, Agree, List.mem_cons, List.not_mem_nil, or_false, forall_eq, forall_eq_or_imp, List.mem_append, Option.mem_toList, List.mem_map] at h <;> simp only [vstepD, vstep]
  case slc => simp only [vval] at hv; rw [hv, h.1]
  case box => rw [h]
  case store => rw [h.1, h.2]
  case app => rw [h.1, h.2]
  case call => rw [evs_congr h]
  case callv => rw [h.1, evs_congr h.2]
  case isnil => rw [h]
  all_goals first | rw [hv] | exact Iff.rfl
theorem put_put (fr : Fr) (d e : Option Nat) (v w : AV) (h : ∀ x, d = some x → e ≠ some x) : (fr.put d v).put e w = (fr.put e w).put d v := by
  cases d with
  | none => rfl
  | some x => cases e with
    | none => rfl
    | some y =>
      have hne : y ≠ x := fun q => h x rfl (by rw [q])
      simp only [Fr.put]
      congr 1
      funext i
      by_cases h1 : i = y
      · subst h1; simp [hne]
      · by_cases h2 : i = x
        · subst h2; simp [h1]
        · simp [h1, h2]
theorem agree_put {o : VOp} {d : Option Nat} (fr : Fr) (v : AV) (h : ∀ x, d = some x → x ∉ o.rd) : Agree o.op.opnds (fr.put d v) fr := fun x hx => by
  cases x with
  | c a => rfl
  | t i => cases d with
    | none => rfl
    | some y =>
      have : i ≠ y := fun q => h y rfl (by subst q; exact List.mem_append_left _ (List.mem_filterMap.2 ⟨_, hx, rfl⟩))
      simp [VE.ev, Fr.put, this]
theorem gd_put {o : VOp} {d : Option Nat} (fr : Fr) (v : AV) (h : ∀ x, d = some x → x ∉ o.rd) : gd o.guard (fr.put d v) = gd o.guard fr := by
  cases hg : o.guard with
  | none => rfl
  | some g =>
    obtain ⟨t, want⟩ := g
    cases d with
    | none => rfl
    | some y =>
      have : t ≠ y := fun q => h y rfl (by subst q; exact List.mem_append_right _ (List.mem_append_left _ (by rw [hg]; simp)))
      simp [gd, Fr.put, this]
theorem apOk_put {o : VOp} {d : Option Nat} (fr : Fr) (v : AV) (h : ∀ x, d = some x → x ∉ o.rd) : apOk o (fr.put d v) ↔ apOk o fr := by
  have ha := agree_put fr v h
  unfold apOk
  cases ho : o.op <;> try exact Iff.rfl
  rename_i n x w
  have hx : x.ev (fr.put d v) = x.ev fr := ha x (by rw [ho]; simp [VO.opnds])
  have ht : ∀ i ∈ o.ap.map (·.2), (fr.put d v).t i = fr.t i := fun i hi => by
    cases d with
    | none => rfl
    | some y =>
      have : i ≠ y := fun q => h y rfl (by subst q; exact List.mem_append_right _ (List.mem_append_right _ hi))
      simp [Fr.put, this]
  constructor
  · intro hh i hi b off b' off' e1 e2; exact hh i hi b off b' off' (by rw [ht i hi]; exact e1) (by rw [hx]; exact e2)
  · intro hh i hi b off b' off' e1 e2; exact hh i hi b off b' off' (by rw [← ht i hi]; exact e1) (by rw [← hx]; exact e2)
end Go.Proofs.Ytddbnncimggogaa.V
end
section
set_option linter.unusedSimpArgs false
set_option linter.unusedVariables false
/- Two operations that commute; any order that keeps what must be kept. -/
namespace Go.Proofs.Ytddbnncimggogaa.V
open Go Go.RowKit
variable {P : Program} {Z : Im}
/-- What an operation of the classes N, L yields. -/
def RO (P : Program) (o : VO) (fr : Fr) (st : St) (v : AV) : Prop :=
  match o with
  | .call f args => VPure P f (VE.evs fr args) v
  | .callv g args => match g.ev fr with
    | .clo f fs cs => VPure P f (fs ++ VE.evs fr args ++ cs) v
    | _ => False
  | .slc sz x lo hi mx => (lo.isSome = true → match x.ev fr with | .sl xs _ => 0 < sz ∧ ∀ y ∈ xs, y.cells.length = sz | _ => False) ∧ vslc (x.ev fr) (lo.map (·.ev fr)) (hi.map (·.ev fr)) (mx.map (·.ev fr)) = some v
  | o => vval o fr st = some v
theorem optK_iff {x : Option AV} {K : AV → Prop} : optK x K ↔ ∃ v, x = some v ∧ K v :=
  ⟨optK_out, fun ⟨v, h, k⟩ => by rw [h]; exact k⟩
theorem val_iff {o : VO} (hc : o.cls = .N ∨ o.cls = .L) {fr : Fr} {st : St} {K : AV → St → Prop} : vstepD P Z o fr st K ↔ ∃ v, RO P o fr st v ∧ K v st := by
  cases o <;> simp only [VO.cls, reduceCtorEq, or_false, or_true, or_self] at hc
  case call => exact Iff.rfl
  case callv g args =>
    simp only [vstepD, RO]
    cases g.ev fr <;> simp
  case slc =>
    simp only [vstepD, vstep, RO, optK_iff]
    exact ⟨fun ⟨h, v, h1, h2⟩ => ⟨v, ⟨h, h1⟩, h2⟩, fun ⟨v, ⟨h, h1⟩, h2⟩ => ⟨h, v, h1, h2⟩⟩
  all_goals (simp only [vstepD, vstep, RO, optK_iff])
theorem RO_state {o : VO} (hc : o.cls = .N) {fr : Fr} {st st' : St} {v : AV} : RO P o fr st v ↔ RO P o fr st' v := by
  cases o <;> simp only [VO.cls, reduceCtorEq] at hc <;> simp only [RO, vval]
theorem vload_ins {st : St} {b : Nat} {x : AObj} (hb : st.objs b = none) {a v : AV} {n : Nat} {ag : Bool} (h : vload st a n ag = some v) : vload (st.ins b x) a n ag = some v := by
  unfold vload at h ⊢
  split at h
  · rename_i b' off
    split at h
    · rename_i cs hcs
      have hne : b' ≠ b := fun e => by rw [e, hb] at hcs; cases hcs
      simp only [St.ins, if_neg hne, hcs]; exact h
    · cases h
  · exact h
  · cases h
theorem RO_ins {o : VO} (hc : o.cls = .N ∨ o.cls = .L) {fr : Fr} {st : St} {b : Nat} {x : AObj} (hb : st.objs b = none) {v : AV} (h : RO P o fr st v) : RO P o fr (st.ins b x) v := by
  rcases hc with hc | hc
  · exact (RO_state hc).1 h
  · cases o <;> simp only [VO.cls, reduceCtorEq] at hc
    exact vload_ins hb h
theorem objs_tok (st : St) (t t' : Tok) : ((st.kill t).add t').objs = st.objs := by cases t <;> cases t' <;> rfl
theorem RO_tok {o : VO} (hc : o.cls = .N ∨ o.cls = .L) {fr : Fr} {st st' : St} (hb : st'.objs = st.objs) {v : AV} : RO P o fr st' v ↔ RO P o fr st v := by
  rcases hc with hc | hc
  · exact RO_state hc
  · cases o <;> simp only [VO.cls, reduceCtorEq] at hc
    simp only [RO, vval, vload, hb]
theorem RO_fun {o : VO} (hc : o.cls = .N ∨ o.cls = .L) (hn : o.isCall = false) {fr : Fr} {st : St} {v w : AV} (h : RO P o fr st v) (k : RO P o fr st w) : v = w := by
  cases o <;> simp only [VO.isCall, Bool.true_eq_false] at hn <;> simp only [VO.cls, reduceCtorEq, or_self] at hc <;> simp only [RO] at h k
  case slc => have := h.2.symm.trans k.2; exact Option.some.inj this
  all_goals (exact Option.some.inj (h.symm.trans k))
/-- One operation that is done (true), or passed by. -/
def vact (P : Program) (Z : Im) (b : Bool) (o : VOp) (K : Fr → St → Prop) (fr : Fr) (st : St) : Prop :=
  if b then apOk o fr ∧ vstepD P Z o.op fr st (fun v st' => K (fr.put o.dst v) st') else K (fr.put o.dst .no) st
theorem vopD_iff {o : VOp} {K : Fr → St → Prop} {fr : Fr} {st : St} : vopD P Z o K fr st ↔ ∃ b, gd o.guard fr = some b ∧ vact P Z b o K fr st := by
  unfold vopD
  cases hg : gd o.guard fr with
  | none => simp
  | some b => cases b <;> simp [vact]
theorem swap {o1 o2 : VOp} (h : indep o1 o2 = true) {K : Fr → St → Prop} {fr : Fr} {st : St} (hk : vopD P Z o1 (vopD P Z o2 K) fr st) : vopD P Z o2 (vopD P Z o1 K) fr st := by
  simp only [indep, Bool.and_eq_true] at h
  obtain ⟨⟨hcls, hd1⟩, hd2⟩ := h
  have D1 : ∀ x, o1.dst = some x → x ∉ o2.rd := fun x e => by rw [e] at hd1; simp at hd1; exact hd1.1
  have D12 : ∀ x, o1.dst = some x → o2.dst ≠ some x := fun x e => by rw [e] at hd1; simp at hd1; exact fun q => hd1.2 q
  have D2 : ∀ x, o2.dst = some x → x ∉ o1.rd := fun x e => by rw [e] at hd2; simpa using hd2
  have D21 : ∀ x, o2.dst = some x → o1.dst ≠ some x := fun x e q => D12 x q e
  have pp : ∀ (f : Fr) v w, (f.put o1.dst v).put o2.dst w = (f.put o2.dst w).put o1.dst v := fun f v w => put_put f _ _ v w D12
  have g1 : ∀ f v, gd o1.guard (f.put o2.dst v) = gd o1.guard f := fun f v => gd_put f v D2
  have g2 : ∀ f v, gd o2.guard (f.put o1.dst v) = gd o2.guard f := fun f v => gd_put f v D1
  have a1 : ∀ f v, Agree o1.op.opnds (f.put o2.dst v) f := fun f v => agree_put f v D2
  have a2 : ∀ f v, Agree o2.op.opnds (f.put o1.dst v) f := fun f v => agree_put f v D1
  obtain ⟨b1, e1, k1⟩ := vopD_iff.1 hk
  cases b1 with
  | false =>
    simp only [vact, Bool.false_eq_true, if_false] at k1
    obtain ⟨b2, e2, k2⟩ := vopD_iff.1 k1
    rw [g2] at e2
    refine vopD_iff.2 ⟨b2, e2, ?_⟩
    cases b2 with
    | false =>
      simp only [vact, Bool.false_eq_true, if_false] at k2 ⊢
      exact vopD_iff.2 ⟨false, by rw [g1]; exact e1, by simp only [vact, Bool.false_eq_true, if_false]; rw [← pp]; exact k2⟩
    | true =>
      simp only [vact, if_true] at k2 ⊢
      obtain ⟨kap, k2⟩ := k2
      rw [vstepD_congr (a2 _ _)] at k2
      refine ⟨(apOk_put fr _ D1).1 kap, vstepD_mono k2 (fun v s hv => ?_)⟩
      exact vopD_iff.2 ⟨false, by rw [g1]; exact e1, by simp only [vact, Bool.false_eq_true, if_false]; rw [← pp]; exact hv⟩
  | true =>
    simp only [vact, if_true] at k1
    obtain ⟨kap1, k1⟩ := k1
    cases e2 : gd o2.guard fr with
    | none =>
      -- nothing can come behind the first
      exfalso
      have hnone : ∀ v s, ¬ vopD P Z o2 K (fr.put o1.dst v) s := fun v s hh => by
        obtain ⟨b2, q, _⟩ := vopD_iff.1 hh
        rw [g2, e2] at q; cases q
      cases hc1 : o1.op.cls with
      | N => obtain ⟨v, _, hv⟩ := (val_iff (.inl hc1)).1 k1; exact hnone _ _ hv
      | L => obtain ⟨v, _, hv⟩ := (val_iff (.inr hc1)).1 k1; exact hnone _ _ hv
      | B => rw [clsOk, hc1] at hcls; cases hc2 : o2.op.cls <;> rw [hc2] at hcls <;> simp at hcls
      | X => rw [clsOk, hc1] at hcls; cases hc2 : o2.op.cls <;> rw [hc2] at hcls <;> simp at hcls
      | S =>
        cases ho : o1.op <;> rw [ho] at hc1 <;> simp only [VO.cls, reduceCtorEq] at hc1
        rw [ho] at k1; simp only [vstepD, vstep, appA] at k1
        split at k1
        · split at k1
          · exact hnone _ _ k1.2.2.2.2
          · exact k1
        · exact k1
      | A =>
        cases ho : o1.op <;> rw [ho] at hc1 <;> simp only [VO.cls, reduceCtorEq] at hc1
        rw [ho] at k1; simp only [vstepD, vstep, appA] at k1
        split at k1
        · exact hnone _ _ (k1.2.2.2.2.2 .full trivial)
        · exact k1
    | some b2 =>
      refine vopD_iff.2 ⟨b2, e2, ?_⟩
      have inner : ∀ v s, vopD P Z o2 K (fr.put o1.dst v) s → vact P Z b2 o2 K (fr.put o1.dst v) s := fun v s hh => by
        obtain ⟨b, q, hb⟩ := vopD_iff.1 hh
        rw [g2, e2] at q; cases q; exact hb
      have outer : ∀ w s, vstepD P Z o1.op fr s (fun v st' => K ((fr.put o2.dst w).put o1.dst v) st') → vopD P Z o1 K (fr.put o2.dst w) s := fun w s hh =>
        vopD_iff.2 ⟨true, by rw [g1]; exact e1, by simp only [vact, if_true]; exact ⟨(apOk_put fr _ D2).2 kap1, by rw [vstepD_congr (a1 _ _)]; exact hh⟩⟩
      have k1 := vstepD_mono k1 inner
      cases b2 with
      | false =>
        simp only [vact, Bool.false_eq_true, if_false] at k1 ⊢
        exact outer _ _ (vstepD_mono k1 (fun v s hv => by rw [← pp]; exact hv))
      | true =>
        simp only [vact, if_true] at k1 ⊢
        -- the second's own look is the same
        have kap2 : apOk o2 fr := by
          have hsome : ∃ v s, apOk o2 (fr.put o1.dst v) ∧ vstepD P Z o2.op (fr.put o1.dst v) s (fun w s' => K ((fr.put o1.dst v).put o2.dst w) s') := by
            cases hc1 : o1.op.cls with
            | N => obtain ⟨v, _, hv⟩ := (val_iff (.inl hc1)).1 k1; exact ⟨_, _, hv⟩
            | L => obtain ⟨v, _, hv⟩ := (val_iff (.inr hc1)).1 k1; exact ⟨_, _, hv⟩
            | B => rw [clsOk, hc1] at hcls; cases hc2 : o2.op.cls <;> rw [hc2] at hcls <;> simp at hcls
            | X => rw [clsOk, hc1] at hcls; cases hc2 : o2.op.cls <;> rw [hc2] at hcls <;> simp at hcls
            | S =>
              cases ho : o1.op <;> rw [ho] at hc1 <;> simp only [VO.cls, reduceCtorEq] at hc1
              rw [ho] at k1; simp only [vstepD, vstep, appA] at k1
              split at k1
              · split at k1
                · exact ⟨_, _, k1.2.2.2.2⟩
                · exact k1.elim
              · exact k1.elim
            | A =>
              cases ho : o1.op <;> rw [ho] at hc1 <;> simp only [VO.cls, reduceCtorEq] at hc1
              rw [ho] at k1; simp only [vstepD, vstep, appA] at k1
              split at k1
              · exact ⟨_, _, k1.2.2.2.2.2 .full trivial⟩
              · exact k1.elim
          obtain ⟨v, s, h1, _⟩ := hsome
          exact (apOk_put fr v D1).1 h1
        refine ⟨kap2, ?_⟩
        have k1 : vstepD P Z o1.op fr st (fun v st' => vstepD P Z o2.op fr st' (fun w s => K ((fr.put o2.dst w).put o1.dst v) s)) :=
          vstepD_mono k1 (fun v s hv => by
            have hv := hv.2
            rw [vstepD_congr (a2 _ _)] at hv
            exact vstepD_mono hv (fun w s' hw => by rw [← pp]; exact hw))
        suffices hs : vstepD P Z o2.op fr st (fun w st' => vstepD P Z o1.op fr st' (fun v s => K ((fr.put o2.dst w).put o1.dst v) s)) from
          vstepD_mono hs (fun w s hw => outer w s hw)
        by_cases hv2 : o2.op.cls = .N ∨ o2.op.cls = .L
        · by_cases hv1 : o1.op.cls = .N ∨ o1.op.cls = .L
          · obtain ⟨v, r1, k⟩ := (val_iff hv1).1 k1
            obtain ⟨w, r2, k⟩ := (val_iff hv2).1 k
            exact (val_iff hv2).2 ⟨w, r2, (val_iff hv1).2 ⟨v, r1, k⟩⟩
          · cases hc1 : o1.op.cls with
            | N => exact absurd (.inl hc1) hv1
            | L => exact absurd (.inr hc1) hv1
            | B => rw [clsOk, hc1] at hcls; cases hc2 : o2.op.cls <;> rw [hc2] at hcls <;> simp at hcls
            | X => rw [clsOk, hc1] at hcls; cases hc2 : o2.op.cls <;> rw [hc2] at hcls <;> simp at hcls
            | S =>
              have hc2 : o2.op.cls = .N := by rw [clsOk, hc1] at hcls; cases hc2 : o2.op.cls <;> rw [hc2] at hcls <;> simp at hcls <;> rfl
              cases ho : o1.op <;> rw [ho] at hc1 <;> simp only [VO.cls, reduceCtorEq] at hc1
              rw [ho] at k1
              simp only [vstepD, vstep, appA] at k1
              split at k1
              · rename_i b off hx
                split at k1
                · rename_i cs hcs
                  obtain ⟨q1, q2, q3, q4, k⟩ := k1
                  have k := (val_iff hv2).1 k
                  obtain ⟨w, r2, k⟩ := k
                  refine (val_iff hv2).2 ⟨w, (RO_state hc2).1 r2, ?_⟩
                  simp only [vstepD, vstep, hx, hcs]
                  exact ⟨q1, q2, q3, q4, k⟩
                · exact k1.elim
              · exact k1.elim
            | A =>
              have hnc : o2.op.isCall = false := by
                rw [clsOk, hc1] at hcls; cases hc2 : o2.op.cls <;> rw [hc2] at hcls <;> simp at hcls <;> exact hcls
              cases ho : o1.op <;> rw [ho] at hc1 <;> simp only [VO.cls, reduceCtorEq] at hc1
              rw [ho] at k1
              simp only [vstepD, vstep, appA] at k1
              split at k1
              · rename_i xs tk ys t2 hx hy
                obtain ⟨q1, q2, q3, q4, q5, k⟩ := k1
                obtain ⟨w, r2, _⟩ := (val_iff hv2).1 (k .full trivial)
                have r2' := (RO_tok hv2 (objs_tok st tk .full)).1 r2
                refine (val_iff hv2).2 ⟨w, r2', ?_⟩
                simp only [vstepD, vstep, appA, hx, hy]
                refine ⟨q1, q2, q3, q4, q5, fun t' ht => ?_⟩
                obtain ⟨w', r3, k'⟩ := (val_iff hv2).1 (k t' ht)
                have := RO_fun hv2 hnc ((RO_tok hv2 (objs_tok st tk t')).1 r3) r2'
                subst this
                exact k'
              · exact k1.elim
        · -- the second acts: the first yields only
          have hv1 : o1.op.cls = .N ∨ o1.op.cls = .L := by
            cases hc1 : o1.op.cls with
            | N => exact .inl rfl
            | L => exact .inr rfl
            | B => rw [clsOk, hc1] at hcls; cases hc2 : o2.op.cls <;> rw [hc2] at hcls <;> simp at hcls
            | X => rw [clsOk, hc1] at hcls; cases hc2 : o2.op.cls <;> rw [hc2] at hcls <;> simp at hcls
            | S => rw [clsOk, hc1] at hcls; cases hc2 : o2.op.cls <;> rw [hc2] at hcls hv2 <;> simp at hcls hv2
            | A => rw [clsOk, hc1] at hcls; cases hc2 : o2.op.cls <;> rw [hc2] at hcls hv2 <;> simp at hcls hv2
          obtain ⟨v, r1, k⟩ := (val_iff hv1).1 k1
          have hnx : o2.op.cls ≠ .X := fun hx => by
            rcases hv1 with h | h <;> rw [clsOk, h, hx] at hcls <;> simp at hcls
          cases ho : o2.op <;> rw [ho] at hv2 hnx <;> simp only [VO.cls, reduceCtorEq, or_false, or_true, or_self, not_true_eq_false, ne_eq, not_false_eq_true] at hv2 hnx
          case box x =>
            rw [ho] at k
            simp only [vstepD, vstep, appA] at k ⊢
            exact ⟨k.1, fun b hb => (val_iff hv1).2 ⟨v, RO_ins hv1 hb r1, k.2 b hb⟩⟩
          case alloc =>
            rw [ho] at k
            simp only [vstepD, vstep, appA] at k ⊢
            exact fun b hb => (val_iff hv1).2 ⟨v, RO_ins hv1 hb r1, k b hb⟩
          case store =>
            rw [ho] at k
            simp only [vstepD, vstep, appA] at k ⊢
            split at k
            · rename_i b' off' hx
              split at k
              · obtain ⟨q1, q2, q3, q4, k⟩ := k
                refine ⟨q1, q2, q3, q4, (val_iff hv1).2 ⟨v, ?_, k⟩⟩
                rcases hv1 with hc1 | hc1
                · exact (RO_state hc1).1 r1
                · rw [clsOk, hc1, ho] at hcls
                  simp only [VO.cls] at hcls
                  cases ho1 : o1.op <;> rw [ho1] at hc1 <;> simp only [VO.cls, reduceCtorEq] at hc1
                  rename_i m ag x
                  rw [ho1] at hcls
                  cases x with
                  | c a => simp [loadAp] at hcls
                  | t i =>
                    simp only [loadAp] at hcls
                    have hi : i ∈ o2.ap.map (·.2) := by simpa using hcls
                    rw [ho1] at r1
                    simp only [RO, vval, vload, VE.ev] at r1 ⊢
                    unfold apOk at kap2
                    rw [ho] at kap2
                    split at r1
                    · rename_i b off hb
                      have hne : b ≠ b' := kap2 i hi b off b' off' hb hx
                      simp only [St.ins, if_neg hne]
                      exact r1
                    · exact r1
                    · cases r1
              · exact k.elim
            · exact k.elim
          case app =>
            rw [ho] at k
            simp only [vstepD, appA] at k ⊢
            split at k
            · obtain ⟨q1, q2, q3, q4, q5, k⟩ := k
              exact ⟨q1, q2, q3, q4, q5, fun t' ht => (val_iff hv1).2 ⟨v, (RO_tok hv1 (objs_tok st _ t')).2 r1, k t' ht⟩⟩
            · exact k.elim
end Go.Proofs.Ytddbnncimggogaa.V
end
section
set_option linter.unusedSimpArgs false
set_option linter.unusedVariables false
/- Any order that keeps what must be kept comes to the text's own. -/
namespace Go.Proofs.Ytddbnncimggogaa.V
open Go Go.RowKit
variable {P : Program} {Z : Im}
def VOp.upto (o : VOp) (i : Nat) : VOp := { o with ap := o.ap.filter (fun p => decide (p.1 < i)) }
theorem apOk_less {o : VOp} {ap : List (Nat × Nat)} (h : ∀ p ∈ ap, p ∈ o.ap) {fr : Fr} (k : apOk o fr) : apOk { o with ap := ap } fr := by
  unfold apOk at k ⊢
  cases ho : o.op <;> try trivial
  rw [ho] at k
  intro i hi
  obtain ⟨p, hp, rfl⟩ := List.mem_map.1 hi
  exact k p.2 (List.mem_map.2 ⟨p, h p hp, rfl⟩)
theorem vopD_less {o : VOp} {ap : List (Nat × Nat)} (h : ∀ p ∈ ap, p ∈ o.ap) {K : Fr → St → Prop} {fr : Fr} {st : St} (k : vopD P Z o K fr st) : vopD P Z { o with ap := ap } K fr st := by
  unfold vopD at k ⊢
  simp only
  cases hg : gd o.guard fr with
  | none => rw [hg] at k; exact k
  | some b => rw [hg] at k; exact ⟨fun e => ⟨apOk_less h (k.1 e).1, (k.1 e).2⟩, k.2⟩
theorem bubble {cl : List VOp} {x : VOp} {K : Fr → St → Prop} (l2 : List VOp) : ∀ (l1 : List Nat) (m : Nat) {fr : Fr} {st : St}, (∀ i ∈ l1, i < cl.length) → l1.Pairwise (· < ·) → (∀ i ∈ l1, m ≤ i) → x.bar = false → (∀ i a, i ∈ l1 → cl[i]? = some a → indep a (x.upto (i + 1)) = true ∧ a.bar = false) →
    vopsD P Z (l1.filterMap (cl[·]?) ++ x :: l2) K fr st → vopD P Z (x.upto m) (vopsD P Z (l1.filterMap (cl[·]?) ++ l2) K) fr st
  | [], m, _, _, _, _, _, hx, _, h => vopD_less (fun p hp => (List.mem_filter.1 hp).1) (by simpa only [List.filterMap_nil, List.nil_append, vopsD, vopE, hx, Bool.false_eq_true, if_false] using h)
  | i :: l1, m, fr, st, hl, hs, hm, hx, hy, h => by
    obtain ⟨a, ha⟩ : ∃ a, cl[i]? = some a := ⟨_, List.getElem?_eq_getElem (hl i (by simp))⟩
    rw [List.filterMap_cons_some ha] at h ⊢
    have hya := hy i a (by simp) ha
    simp only [List.cons_append, vopsD, vopE, hya.2, Bool.false_eq_true, if_false] at h ⊢
    have hs' := List.pairwise_cons.1 hs
    have h1 := vopD_mono h (fun f s hh => bubble l2 l1 (i + 1) (fun j hj => hl j (by simp [hj])) hs'.2 (fun j hj => hs'.1 j hj) hx (fun j b hj => hy j b (by simp [hj])) hh)
    have h2 := swap hya.1 h1
    refine vopD_less (o := x.upto (i + 1)) (fun p hp => ?_) h2
    obtain ⟨q1, q2⟩ := List.mem_filter.1 hp
    have := hm i (by simp)
    exact List.mem_filter.2 ⟨q1, by simp at q2 ⊢; omega⟩
theorem vop_ap {K : Fr → St → Prop} {o o' : VOp} (h1 : o'.dst = o.dst) (h2 : o'.op = o.op) (h3 : o'.guard = o.guard) : vop P Z o' K = vop P Z o K := by
  funext fr st
  unfold vop
  rw [h1, h2, h3]
theorem perm_ok {cl : List VOp} {K : Fr → St → Prop} : ∀ (l T : List Nat) {fr : Fr} {st : St}, T.Pairwise (· < ·) → (∀ i, i ∈ l ↔ i ∈ T) → l.Nodup → (∀ i ∈ T, i < cl.length) →
    (∀ i j a b, i ∈ T → j ∈ T → i < j → l.idxOf j < l.idxOf i → cl[i]? = some a → cl[j]? = some b → indep a (b.upto (i + 1)) = true ∧ a.bar = false ∧ b.bar = false) → vopsD P Z (T.filterMap (cl[·]?)) K fr st → vops P Z (l.filterMap (cl[·]?)) K fr st
  | [], T, fr, st, _, hm, _, _, _, h => by
    have : T = [] := List.eq_nil_iff_forall_not_mem.2 (fun i hi => by simpa using (hm i).2 hi)
    subst this; exact h
  | x :: l, T, fr, st, hs, hm, hn, hlt, hi, h => by
    have hx : x ∈ T := (hm x).1 (by simp)
    obtain ⟨T1, T2, rfl⟩ := List.append_of_mem hx
    have hxl := hlt x hx
    obtain ⟨b, hb⟩ : ∃ b, cl[x]? = some b := ⟨_, List.getElem?_eq_getElem hxl⟩
    have hs1 := List.pairwise_append.1 hs
    have hnx := List.nodup_cons.1 hn
    have hT1 : ∀ y ∈ T1, y < x := fun y hy => hs1.2.2 y hy x (by simp)
    have hT2 : ∀ y ∈ T2, x < y := fun y hy => (List.pairwise_cons.1 hs1.2.1).1 y hy
    rw [List.filterMap_append, List.filterMap_cons_some hb] at h
    have hq : ∀ y a, y ∈ T1 → cl[y]? = some a → indep a (b.upto (y + 1)) = true ∧ a.bar = false ∧ b.bar = false := fun y a hy hya => by
      refine hi y x a b (by simp [hy]) (by simp) (hT1 y hy) ?_ hya hb
      have hne : y ≠ x := by have := hT1 y hy; omega
      have hne' : (x == y) = false := by simpa using Ne.symm hne
      rw [List.idxOf_cons, List.idxOf_cons]
      simp [hne']
    have h' : vop P Z b (vopsD P Z ((T1 ++ T2).filterMap (cl[·]?)) K) fr st := by
      cases hbar : b.bar with
      | false =>
        have h' := bubble (T2.filterMap (cl[·]?)) T1 0 (fun i hi' => hlt i (by simp [hi'])) hs1.1 (fun _ _ => Nat.zero_le _) hbar (fun y a hy hya => ⟨(hq y a hy hya).1, (hq y a hy hya).2.1⟩) h
        rw [← List.filterMap_append] at h'
        rw [← vop_ap (o' := b.upto 0) (o := b) rfl rfl rfl]
        exact vop_of_D h'
      | true =>
        have e : T1 = [] := by
          cases T1 with
          | nil => rfl
          | cons y T1 =>
            exfalso
            have hy : y < cl.length := hlt y (by simp)
            have := (hq y _ (by simp) (List.getElem?_eq_getElem hy)).2.2
            rw [hbar] at this; cases this
        subst e
        simp only [List.filterMap_nil, List.nil_append, vopsD] at h ⊢
        exact vop_of_E h
    rw [List.filterMap_cons_some hb]
    simp only [vops]
    refine vop_mono h' (fun f s hh => perm_ok l (T1 ++ T2) ?_ ?_ hnx.2 ?_ ?_ hh)
    · exact List.pairwise_append.2 ⟨hs1.1, (List.pairwise_cons.1 hs1.2.1).2, fun a ha c hc => hs1.2.2 a ha c (by simp [hc])⟩
    · intro i
      constructor
      · intro hil
        have := (hm i).1 (by simp [hil])
        have hne : i ≠ x := fun e => hnx.1 (e ▸ hil)
        simp at this ⊢
        rcases this with h | h | h
        · exact .inl h
        · exact absurd h hne
        · exact .inr h
      · intro hiT
        have hne : i ≠ x := by
          rcases List.mem_append.1 hiT with h | h
          · have := hT1 i h; omega
          · have := hT2 i h; omega
        have := (hm i).2 (by simp at hiT ⊢; rcases hiT with h | h; exact .inl h; exact .inr (.inr h))
        rcases List.mem_cons.1 this with h | h
        · exact absurd h hne
        · exact h
    · exact fun i hiT => hlt i (by simp at hiT ⊢; rcases hiT with h | h; exact .inl h; exact .inr (.inr h))
    · intro i j a c hiT hjT hij hidx ha hc
      have ne : ∀ k, k ∈ T1 ++ T2 → k ≠ x := fun k hk => by
        rcases List.mem_append.1 hk with h | h
        · have := hT1 k h; omega
        · have := hT2 k h; omega
      have mem : ∀ k, k ∈ T1 ++ T2 → k ∈ T1 ++ x :: T2 := fun k hk => by simp at hk ⊢; rcases hk with h | h; exact .inl h; exact .inr (.inr h)
      refine hi i j a c (mem i hiT) (mem j hjT) hij ?_ ha hc
      have e1 : (x == i) = false := by simpa using Ne.symm (ne i hiT)
      have e2 : (x == j) = false := by simpa using Ne.symm (ne j hjT)
      rw [List.idxOf_cons, List.idxOf_cons, e1, e2]
      simp; omega
/-! ### What must stand ahead, as bits -/
def maskOf (acc : List Nat) (pre : List Nat) : Nat := pre.foldl (fun s i => s ||| 2 ^ i ||| acc.getD i 0) 0
def masks : List VOp → List Nat → List Nat
  | [], acc => acc
  | v :: r, acc => masks r (acc ++ [maskOf acc v.pre])
theorem foldl_bits (acc : List Nat) (b : Nat) : ∀ (l : List Nat) (s : Nat), (l.foldl (fun s i => s ||| 2 ^ i ||| acc.getD i 0) s).testBit b = true → s.testBit b = true ∨ ∃ i ∈ l, b = i ∨ (acc.getD i 0).testBit b = true
  | [], s, h => .inl h
  | i :: l, s, h => by
    rw [List.foldl_cons] at h
    rcases foldl_bits acc b l _ h with h | ⟨j, hj, h⟩
    · rw [Nat.testBit_or, Nat.testBit_or, Bool.or_eq_true, Bool.or_eq_true, Nat.testBit_two_pow] at h
      rcases h with (h | h) | h
      · exact .inl h
      · exact .inr ⟨i, by simp, .inl (by simpa using Eq.symm (of_decide_eq_true h))⟩
      · exact .inr ⟨i, by simp, .inr h⟩
    · exact .inr ⟨j, by simp [hj], h⟩
theorem masks_ok {Bef : Nat → Nat → Prop} (htr : ∀ i j k, Bef i j → Bef j k → Bef i k) : ∀ (r : List VOp) (acc : List Nat), (∀ k i, k < acc.length → (acc.getD k 0).testBit i = true → Bef i k) →
    (∀ k v i, r[k]? = some v → i ∈ v.pre → Bef i (acc.length + k)) → ∀ k i, k < acc.length + r.length → ((masks r acc).getD k 0).testBit i = true → Bef i k
  | [], acc, h, _, k, i, hk, hb => h k i (by simpa using hk) hb
  | v :: r, acc, h, hp, k, i, hk, hb => by
    refine masks_ok htr r (acc ++ [maskOf acc v.pre]) (fun k i hk hb => ?_) (fun k v' i hv hi => ?_) k i (by simp at hk ⊢; omega) hb
    · by_cases hlt : k < acc.length
      · rw [List.getD_eq_getElem?_getD, List.getElem?_append_left hlt, ← List.getD_eq_getElem?_getD] at hb; exact h k i hlt hb
      · have : k = acc.length := by simp at hk; omega
        subst this
        rw [List.getD_eq_getElem?_getD, List.getElem?_append_right (Nat.le_refl _), Nat.sub_self] at hb
        simp only [List.getElem?_cons_zero, Option.getD_some, maskOf] at hb
        rcases foldl_bits acc i v.pre 0 hb with h0 | ⟨j, hj, h0⟩
        · simp at h0
        · have hbj := hp 0 v j rfl hj
          rw [Nat.add_zero] at hbj
          rcases h0 with rfl | h0
          · exact hbj
          · by_cases hjl : j < acc.length
            · exact htr _ _ _ (h j i hjl h0) hbj
            · rw [List.getD_eq_getElem?_getD, List.getElem?_eq_none (by omega)] at h0; simp at h0
    · have := hp (k + 1) v' i (by simpa using hv) hi
      simpa [Nat.add_assoc, Nat.add_comm 1 k] using this
def drawOk (cl : List VOp) : Bool :=
  let m := masks cl []
  (List.range cl.length).all fun j => (List.range j).all fun i => (m.getD j 0).testBit i || (match cl[i]?, cl[j]? with | some a, some b => indep a (b.upto (i + 1)) && (!a.bar && !b.bar) | _, _ => false)
theorem drawOk_ok {cl : List VOp} (h : drawOk cl = true) {l : List Nat} (hpre : ∀ k v i, cl[k]? = some v → i ∈ v.pre → l.idxOf i < l.idxOf k) : ∀ i j a b, i < j → l.idxOf j < l.idxOf i → cl[i]? = some a → cl[j]? = some b → indep a (b.upto (i + 1)) = true ∧ a.bar = false ∧ b.bar = false := by
  intro i j a b hij hidx ha hb
  have hj := (List.getElem?_eq_some_iff.1 hb).1
  simp only [drawOk, List.all_eq_true, List.mem_range] at h
  have := h j hj i hij
  rw [ha, hb] at this
  rw [Bool.or_eq_true] at this
  rcases this with h1 | h1
  · have := masks_ok (Bef := fun i j => l.idxOf i < l.idxOf j) (fun _ _ _ => Nat.lt_trans) cl [] (by simp) (fun k v i hv hi => by simpa using hpre k v i hv hi) j i (by simpa using hj) h1
    omega
  · have h2 : (indep a (b.upto (i + 1)) && (!a.bar && !b.bar)) = true := h1
    simpa only [Bool.and_eq_true, Bool.not_eq_true'] using h2
/-! ### The orders that the machine draws -/
/-- What every set that is closed holds. -/
def Closed (md : Region.Mode) (ops : Array Oper) : Prop := ∀ L : Nat → Prop, (∀ (i : Nat) o, ops[i]? = some o → (∀ e ∈ o.after, Region.binds md e = true → L e.on) → L i) → ∀ i, i < ops.size → L i
def predMask (md : Region.Mode) (o : Oper) : Nat := o.after.toList.foldl (fun s e => if Region.binds md e then s ||| 2 ^ e.on else s) 0
def acyc (pm : List Nat) (n : Nat) : Nat → Nat → Bool
  | 0, seen => (List.range n).all (seen.testBit ·)
  | f + 1, seen => match (List.range n).find? (fun i => !seen.testBit i && (pm.getD i 0 &&& seen) == pm.getD i 0) with
    | some i => acyc pm n f (seen ||| 2 ^ i)
    | none => (List.range n).all (seen.testBit ·)
theorem predMask_bits (md : Region.Mode) : ∀ (l : List Edge) (s : Nat) (b : Nat), (s.testBit b = true ∨ ∃ e ∈ l, Region.binds md e = true ∧ e.on = b) → (l.foldl (fun s e => if Region.binds md e then s ||| 2 ^ e.on else s) s).testBit b = true
  | [], s, b, h => by simpa using h
  | e :: l, s, b, h => by
    rw [List.foldl_cons]
    refine predMask_bits md l _ b ?_
    rcases h with h | ⟨e', he, hb, rfl⟩
    · left; split
      · rw [Nat.testBit_or, h, Bool.true_or]
      · exact h
    · rcases List.mem_cons.1 he with rfl | he
      · left; rw [if_pos hb, Nat.testBit_or, Nat.testBit_two_pow]; simp
      · exact .inr ⟨e', he, hb, rfl⟩
theorem acyc_ok {md : Region.Mode} {ops : Array Oper} {L : Nat → Prop} (hL : ∀ (i : Nat) o, ops[i]? = some o → (∀ e ∈ o.after, Region.binds md e = true → L e.on) → L i) :
    ∀ (f seen : Nat), (∀ i, seen.testBit i = true → L i) → acyc (ops.toList.map (predMask md)) ops.size f seen = true → ∀ i, i < ops.size → L i
  | 0, seen, hs, h, i, hi => hs i (by simp only [acyc, List.all_eq_true, List.mem_range] at h; exact h i hi)
  | f + 1, seen, hs, h, i, hi => by
    simp only [acyc] at h
    split at h
    · rename_i j hj
      have hj2 := List.find?_some hj
      have hjm := List.mem_of_find?_eq_some hj
      have hlt := List.mem_range.1 hjm
      simp only [Bool.and_eq_true, beq_iff_eq] at hj2
      refine acyc_ok hL f _ (fun k hk => ?_) h i hi
      rw [Nat.testBit_or, Bool.or_eq_true] at hk
      rcases hk with hk | hk
      · exact hs k hk
      · rw [Nat.testBit_two_pow] at hk
        have : j = k := of_decide_eq_true hk
        subst this
        refine hL j _ (Array.getElem?_eq_getElem hlt) (fun e he hb => hs _ ?_)
        have hm : (predMask md ops[j]).testBit e.on = true := predMask_bits md _ 0 _ (.inr ⟨e, by simpa using he, hb, rfl⟩)
        have hg : (ops.toList.map (predMask md)).getD j 0 = predMask md ops[j] := by
          rw [List.getD_eq_getElem?_getD, List.getElem?_map]; simp [hlt]
        rw [hg] at hj2
        rw [← hj2.2, Nat.testBit_and, Bool.and_eq_true] at hm
        exact hm.2
    · exact hs i (by simp only [List.all_eq_true, List.mem_range] at h; exact h i hi)
def acycOk (md : Region.Mode) (ops : Array Oper) : Bool := acyc (ops.toList.map (predMask md)) ops.size ops.size 0
theorem closed_of {md : Region.Mode} {ops : Array Oper} (h : acycOk md ops = true) : Closed md ops := fun _ hL => acyc_ok hL ops.size 0 (by simp) h
theorem lin_go (md : Region.Mode) (ops : Array Oper) (hpre : Closed md ops) (hon : ∀ (j : Nat) o, ops[j]? = some o → ∀ e ∈ o.after, e.on < ops.size) : ∀ (fuel t : Nat) (listed : Array Bool), listed.size = ops.size → listed.toList.count false ≤ fuel →
    (∀ i ∈ Region.linearise.go md ops fuel t listed [], i < ops.size ∧ listed.getD i true = false) ∧ (Region.linearise.go md ops fuel t listed []).Nodup ∧
    (∀ i, i < ops.size → listed.getD i true = false → i ∈ Region.linearise.go md ops fuel t listed []) ∧
    (∀ l1 j l2 o, Region.linearise.go md ops fuel t listed [] = l1 ++ j :: l2 → ops[j]? = some o → ∀ e ∈ o.after, Region.binds md e = true → listed.getD e.on false = true ∨ e.on ∈ l1) := by
  intro fuel
  induction fuel with
  | zero =>
    intro t listed hs hc
    have hall : ∀ i, i < ops.size → listed.getD i true = true := fun i hi => by
      have hlt : i < listed.size := by omega
      rw [Array.getD_eq_getD_getElem?, Array.getElem?_eq_getElem hlt]
      simp only [Option.getD_some]
      cases hv : listed[i] with
      | true => rfl
      | false =>
        have : false ∈ listed.toList := by rw [← hv]; exact Array.mem_toList_iff.2 (Array.getElem_mem hlt)
        have := List.count_pos_iff.2 this
        omega
    simp only [Region.linearise.go, List.reverse_nil]
    exact ⟨by simp, by simp, (fun i hi h => by rw [hall i hi] at h; cases h), (fun l1 j l2 o h => by simp at h)⟩
  | succ fuel ih =>
    intro t listed hs hc
    simp only [Region.linearise.go]
    change (∀ i ∈ (match (Region.ready md ops listed)[t % (Region.ready md ops listed).length]? with
      | some i => Region.linearise.go md ops fuel (t / (Region.ready md ops listed).length) (listed.setIfInBounds i true) [i]
      | none => [].reverse), _) ∧ (match (Region.ready md ops listed)[t % (Region.ready md ops listed).length]? with
      | some i => Region.linearise.go md ops fuel (t / (Region.ready md ops listed).length) (listed.setIfInBounds i true) [i]
      | none => [].reverse).Nodup ∧ (∀ i, i < ops.size → listed.getD i true = false → i ∈ (match (Region.ready md ops listed)[t % (Region.ready md ops listed).length]? with
      | some i => Region.linearise.go md ops fuel (t / (Region.ready md ops listed).length) (listed.setIfInBounds i true) [i]
      | none => [].reverse)) ∧ (∀ l1 j l2 o, (match (Region.ready md ops listed)[t % (Region.ready md ops listed).length]? with
      | some i => Region.linearise.go md ops fuel (t / (Region.ready md ops listed).length) (listed.setIfInBounds i true) [i]
      | none => [].reverse) = l1 ++ j :: l2 → _)
    cases hi : (Region.ready md ops listed)[t % (Region.ready md ops listed).length]? with
    | none =>
      have hnil : Region.ready md ops listed = [] := by
        cases hr : Region.ready md ops listed with
        | nil => rfl
        | cons x xs =>
          rw [hr] at hi
          have hlt : t % (x :: xs).length < (x :: xs).length := Nat.mod_lt _ (by simp)
          rw [List.getElem?_eq_getElem hlt] at hi; cases hi
      have hall : ∀ i, i < ops.size → listed.getD i true = true := by
        refine hpre (fun i => listed.getD i true = true) (fun i o ho hL => ?_)
        have hlt := (Array.getElem?_eq_some_iff.1 ho).1
        cases hv : listed.getD i true with
        | true => rfl
        | false =>
          have : i ∈ Region.ready md ops listed := by
            unfold Region.ready
            refine List.mem_filter.2 ⟨List.mem_range.2 hlt, ?_⟩
            rw [hv]
            simp only [Bool.not_false, Bool.true_and, ho, Option.map_some, Option.getD_some]
            refine Array.all_eq_true_iff_forall_mem.2 (fun e he => ?_)
            cases hb : Region.binds md e with
            | false => rfl
            | true =>
              have h1 := hL e he hb
              have h2 := hon i o ho e he
              have hg : listed.getD e.on false = true := by
                rw [Array.getD_eq_getD_getElem?] at h1 ⊢
                have hl : e.on < listed.size := by omega
                rw [Array.getElem?_eq_getElem hl] at h1 ⊢
                exact h1
              rw [hg]; rfl
          rw [hnil] at this; cases this
      simp only [List.reverse_nil]
      exact ⟨by simp, by simp, (fun i hi h => by rw [hall i hi] at h; cases h), (fun l1 j l2 o h => by simp at h)⟩
    | some i =>
      have hmem := List.mem_of_getElem? hi
      unfold Region.ready at hmem
      obtain ⟨hlt, hrd⟩ := List.mem_filter.1 hmem
      have hlt := List.mem_range.1 hlt
      simp only [Bool.and_eq_true, Bool.not_eq_true'] at hrd
      obtain ⟨hfree, hafter⟩ := hrd
      rw [Array.getElem?_eq_getElem hlt] at hafter
      simp only [Option.map_some, Option.getD_some] at hafter
      have hil : i < listed.size := by omega
      have hli : listed[i] = false := by
        rw [Array.getD_eq_getD_getElem?, Array.getElem?_eq_getElem hil] at hfree; exact hfree
      have hcount : (listed.setIfInBounds i true).toList.count false ≤ fuel := by
        have hm : false ∈ listed.toList := by rw [← hli]; exact Array.mem_toList_iff.2 (Array.getElem_mem hil)
        have := List.count_pos_iff.2 hm
        rw [Array.toList_setIfInBounds, List.count_set (by simpa using hil)]
        have e1 : listed.toList[i]'(by simpa using hil) = false := by simpa using hli
        simp only [e1, beq_self_eq_true, if_true]
        simp only [show ((true : Bool) == false) = false from rfl, Bool.false_eq_true, if_false]
        omega
      obtain ⟨q1, q2, q3, q4⟩ := ih (t / (Region.ready md ops listed).length) (listed.setIfInBounds i true) (by simpa using hs) hcount
      have hget : ∀ (k : Nat) (d : Bool), (listed.setIfInBounds i true).getD k d = if k = i then true else listed.getD k d := fun k d => by
        rw [Array.getD_eq_getD_getElem?, Array.getElem?_setIfInBounds]
        by_cases hk : i = k
        · subst hk; simp [hil]
        · simp [hk, Ne.symm hk, Array.getD_eq_getD_getElem?]
      simp only []
      rw [linearise_go_acc, List.reverse_singleton, List.singleton_append]
      refine ⟨fun k hk => ?_, ?_, fun k hk hf => ?_, fun l1 j l2 o hl ho e he hb => ?_⟩
      · rcases List.mem_cons.1 hk with rfl | hk
        · exact ⟨hlt, hfree⟩
        · have := q1 k hk
          rw [hget] at this
          split at this
          · exact absurd this.2 (by simp)
          · exact this
      · refine List.nodup_cons.2 ⟨fun hm => ?_, q2⟩
        have := (q1 i hm).2
        rw [hget, if_pos rfl] at this; cases this
      · by_cases hki : k = i
        · subst hki; simp
        · exact List.mem_cons_of_mem _ (q3 k hk (by rw [hget, if_neg hki]; exact hf))
      · cases l1 with
        | nil =>
          simp only [List.nil_append, List.cons.injEq] at hl
          obtain ⟨rfl, _⟩ := hl
          rw [Array.getElem?_eq_getElem hlt] at ho
          cases ho
          have := Array.all_eq_true_iff_forall_mem.1 hafter e he
          rw [hb] at this
          exact .inl (by simpa using this)
        | cons y l1 =>
          simp only [List.cons_append, List.cons.injEq] at hl
          obtain ⟨rfl, hl⟩ := hl
          rcases q4 l1 j l2 o hl ho e he hb with h | h
          · rw [hget] at h
            split at h
            · rename_i hk; rw [hk]; exact .inr (by simp)
            · exact .inl h
          · exact .inr (by simp [h])
theorem lin_ok (md : Region.Mode) (ops : Array Oper) (hpre : Closed md ops) (hon : ∀ (j : Nat) o, ops[j]? = some o → ∀ e ∈ o.after, e.on < ops.size) (t : Nat) :
    (∀ i, i ∈ Region.linearise md ops t ↔ i ∈ List.range ops.size) ∧ (Region.linearise md ops t).Nodup ∧ (∀ (j : Nat) o, ops[j]? = some o → ∀ e ∈ o.after, Region.binds md e = true → (Region.linearise md ops t).idxOf e.on < (Region.linearise md ops t).idxOf j) := by
  obtain ⟨q1, q2, q3, q4⟩ := lin_go md ops hpre hon ops.size t (Array.replicate ops.size false) (by simp) (by rw [Array.toList_replicate]; exact Nat.le_trans (List.count_le_length) (by simp))
  have hin : ∀ i, i < ops.size → i ∈ Region.linearise md ops t := fun i hi => q3 i hi (by simp [Array.getD_eq_getD_getElem?, hi])
  refine ⟨fun i => ⟨fun h => List.mem_range.2 (q1 i h).1, fun h => hin i (List.mem_range.1 h)⟩, q2, fun j o ho e he hb => ?_⟩
  have hj := (Array.getElem?_eq_some_iff.1 ho).1
  obtain ⟨l1, l2, hl⟩ := List.append_of_mem (hin j hj)
  rcases q4 l1 j l2 o hl ho e he hb with h | h
  · have : e.on < ops.size := hon j o ho e he
    simp [Array.getD_eq_getD_getElem?, this] at h
  · have hl' : Region.linearise md ops t = l1 ++ j :: l2 := hl
    have hnd : (l1 ++ j :: l2).Nodup := hl ▸ q2
    have hjn : j ∉ l1 := fun hm => (List.nodup_append.1 hnd).2.2 j hm j (by simp) rfl
    rw [hl', List.idxOf_append, List.idxOf_append, if_pos h, if_neg hjn]
    have := List.idxOf_lt_length_of_mem h
    omega
end Go.Proofs.Ytddbnncimggogaa.V
end
section
set_option linter.unusedSimpArgs false
set_option linter.unusedVariables false
/- The program's form, as a form over values with rows taken in; what a walk through it asks. -/
namespace Go.Proofs.Ytddbnncimggogaa.V
open Go Go.RowKit
inductive VCode where
  | skip
  | reg (ops : List VOp)
  | dreg (ops : List VOp)
  | seq (a b : VCode)
  | cond (c : VE) (a b : VCode)
  | block (id : Nat) (b : VCode)
  | loop (b : VCode)
  | exit (id : Nat)
  | ret
  | label (l : Nat)
  | goto (l : Nat)
  | scope (c : VCode) (l : Nat) (rest : VCode)
  | rng (g : VE) (ps : List Nat) (asg body : VCode)
  deriving Inhabited
def afterOk (ops : Array Oper) : Bool := (ops.toList.all fun o => o.after.toList.all fun e => decide (e.on < ops.size)) && acycOk .any ops && acycOk .text ops && acycOk .gc ops
/-- The loads that a store must lie apart from. -/
def addAp (vs : List VOp) : List VOp :=
  let m := masks vs []
  vs.zipIdx.map fun (o, j) => match o.op with
    | .store .. => { o with ap := (List.range j).filterMap fun i => if (m.getD j 0).testBit i then none else match vs[i]? with
      | some ⟨_, .load _ _ (.t a), _, _, _⟩ => some (i, a)
      | _ => none }
    | .call .. | .callv .. | .app .. => if ((List.range j).all fun i => (m.getD j 0).testBit i) && ((List.range vs.length).all fun k => k ≤ j || (m.getD k 0).testBit j) then { o with ap := [(0, 0)] } else o
    | _ => o
def vfind : VCode → Nat → Option VCode
  | .seq a b, l => match vfind a l with
    | some rest => some (.seq rest b)
    | none => vfind b l
  | .label l', l => if l' == l then some .skip else none
  | _, _ => none
def vlabel : VCode → Option Nat
  | .seq a b => match vlabel a with | some l => some l | none => vlabel b
  | .label l => some l
  | _ => none
def comp (P : Program) (n : Nat) : Code → Option VCode
  | .skip => some .skip
  | .label l => some (.label l)
  | .goto l => some (.goto l)
  | .scope b => match comp P n b with
    | some vb => match vlabel vb with
      | some l => match vfind vb l with
        | some vr => some (.scope vb l vr)
        | none => none
      | none => none
    | none => none
  | .region _ ops false => (compOps P n ops ops.toList).map .reg
  | .region _ ops true => match compOps P n ops ops.toList with
    | some vs => if drawOk (addAp vs) = true ∧ afterOk ops = true then some (.dreg (addAp vs)) else none
    | none => none
  | .seq a b => match comp P n a, comp P n b with | some a, some b => some (.seq a b) | _, _ => none
  | .cond c a b => match compE c, comp P n a, comp P n b with | some c, some a, some b => some (.cond c a b) | _, _, _ => none
  | .block id b => (comp P n b).map (.block id)
  | .loop b => (comp P n b).map .loop
  | .exit id => some (.exit id)
  | .ret => some .ret
  | .rangeFunc g ps asg body => match compE g, comp P n asg, comp P n body with
    | some g, some a, some b => if ps.toList.all (fun p => decide (p < n)) = true then some (.rng g ps.toList a b) else none
    | _, _, _ => none
  | _ => none
def lobj (r : Loop) (s : LoopState) (p : Option Code) : AObj := .raw (.loop { r with state := s, pending := p })
def dobj : AObj := .raw (.deferred (some []))
def jumpQ (Q : Exit → Fr → St → Prop) : Option Code → Fr → St → Prop
  | none => Q .normal
  | some .ret => Q .ret
  | some (.exit id) => Q (.exit id)
  | some (.goto t) => Q (.goto t)
  | _ => fun _ _ => False
def roundQ (l : Nat) (r : Loop) (K : AV → St → Prop) : Exit → Fr → St → Prop
  | .normal, _, st => st.objs l = some (lobj r .busy none) ∧ K (.bool true) (st.ins l (lobj r .ready none))
  | .ret, _, st => st.objs l = some (lobj r .busy none) ∧ K (.bool false) (st.ins l (lobj r .done (some .ret)))
  | .exit id, _, st => st.objs l = some (lobj r .busy none) ∧ K (.bool false) (st.ins l (lobj r .done (some (.exit id))))
  | .goto t, _, st => st.objs l = some (lobj r .busy none) ∧ K (.bool false) (st.ins l (lobj r .done (some (.goto t))))
  | _, _, _ => False
def argsFr (ps : List Nat) (args : List AV) (fr : Fr) : Fr := { t := (ps.zip args).foldl (fun t (p, v) => fun i => if i = p then v else t i) fr.t, d := [] }
def thenQ (K : Fr → St → Prop) (Q : Exit → Fr → St → Prop) : Exit → Fr → St → Prop
  | .normal, fr, st => K fr st
  | e, fr, st => Q e fr st
def blockQ (id : Nat) (Q : Exit → Fr → St → Prop) : Exit → Fr → St → Prop
  | .exit id', fr, st => if id' = id then Q .normal fr st else Q (.exit id') fr st
  | e, fr, st => Q e fr st
def jumpsQ (l : Nat) (J : Fr → St → Prop) (Q : Exit → Fr → St → Prop) : Exit → Fr → St → Prop
  | .goto l', fr, st => l' = l ∧ J fr st
  | e, fr, st => Q e fr st
def condQ (c : AV) (A B : Prop) : Prop := match c with | .bool t => (t = true → A) ∧ (t = false → B) | _ => False
def vwp (P : Program) : VCode → Im → Option Nat → (Exit → Fr → St → Prop) → Fr → St → Prop
  | .skip, _, _, Q => Q .normal
  | .reg ops, Z, _, Q => vops P Z ops (Q .normal)
  | .dreg ops, Z, _, Q => vopsD P Z ops (Q .normal)
  | .seq a b, Z, ro, Q => vwp P a Z ro (thenQ (vwp P b Z ro Q) Q)
  | .cond c a b, Z, ro, Q => fun fr st => condQ (c.ev fr) (vwp P a Z ro Q fr st) (vwp P b Z ro Q fr st)
  | .block id b, Z, ro, Q => vwp P b Z ro (blockQ id Q)
  | .loop b, Z, ro, Q => fun fr st => ∃ (Inv : Fr → St → Prop) (μ : Fr → St → Nat), Inv fr st ∧
      ∀ fr st, Inv fr st → vwp P b Z ro (thenQ (fun fr' st' => ∃ s, s.le st' ∧ Inv fr' s ∧ μ fr' s < μ fr st) Q) fr st
  | .exit id, _, _, Q => Q (.exit id)
  | .ret, _, _, Q => Q .ret
  | .label _, _, _, Q => Q .normal
  | .goto l, _, _, Q => Q (.goto l)
  | .scope c l rest, Z, ro, Q => fun fr st => ro = none ∧ ∃ (J : Fr → St → Prop) (μ : Fr → St → Nat), vwp P c Z ro (jumpsQ l J Q) fr st ∧
      ∀ fr st, J fr st → vwp P rest Z ro (jumpsQ l (fun fr' st' => ∃ s, s.le st' ∧ J fr' s ∧ μ fr' s < μ fr st) Q) fr st
  | .rng g ps asg body, Z, ro, Q => fun fr st =>
    match g.ev fr with
    | .clo gf fs cs =>
      match ro with
      | none => ∀ (Y : Im) (l D : Nat) (r : Loop), Z.le Y → st.objs l = none → st.objs D = none → l ≠ D →
          (∀ args st' K, args.length = ps.length → st'.objs l = some (lobj r .ready none) →
            vwp P asg Y (some l) (fun e fr1 st1 => e = .normal ∧ st1.objs l = some (lobj r .ready none) ∧ vwp P body Y (some l) (roundQ l r K) fr1 (st1.ins l (lobj r .busy none))) (argsFr ps args fr) st' → VYield P Y l args st' K) →
          VCalls P Y gf (fs ++ [.yld l] ++ cs) ((st.ins D dobj).ins l (lobj r .ready none))
            (fun _ s2 => ∃ s p, s ≠ .busy ∧ s2.objs l = some (lobj r s p) ∧ jumpQ Q p { fr with d := D :: fr.d } (s2.ins l (lobj r .exhausted p)))
      | some l0 => (∃ r0 s0 p0, st.objs l0 = some (lobj r0 s0 p0)) ∧ ∀ (Y : Im) (l : Nat) (r : Loop), Z.le Y → st.objs l = none →
          (∀ args st' K, args.length = ps.length → st'.objs l = some (lobj r .ready none) →
            vwp P asg Y (some l) (fun e fr1 st1 => e = .normal ∧ st1.objs l = some (lobj r .ready none) ∧ vwp P body Y (some l) (roundQ l r K) fr1 (st1.ins l (lobj r .busy none))) (argsFr ps args fr) st' → VYield P Y l args st' K) →
          VCalls P Y gf (fs ++ [.yld l] ++ cs) (st.ins l (lobj r .ready none))
            (fun _ s2 => ∃ s p, s ≠ .busy ∧ s2.objs l = some (lobj r s p) ∧ jumpQ Q p fr (s2.ins l (lobj r .exhausted p)))
    | _ => False
variable {P : Program}
section
variable {B : Base} {I : Im} {st : St} {W : World} {fr : Fr} {a : Act} {n : Nat}
theorem Rel.put_raw (h : Rel B I st W) {l : Nat} {o o' : Obj} (hl : st.objs l = some (.raw o)) : Rel B I (st.ins l (.raw o')) (W.putObj l o') := by
  have hlt := h.objs_lt hl
  have hsame : ∀ k, k ≠ l → (W.putObj l o').heap[k]? = W.heap[k]? := fun k hk => World.putObj_heap_other hk
  have hI := h.sep l _ hl
  exact {
    cells := fun b cs hb => by
      simp only [St.ins] at hb
      split at hb
      · cases hb
      · rename_i e; obtain ⟨vs, ty, e', r⟩ := h.cells b cs hb; exact ⟨vs, ty, (hsame b e).trans e', r⟩
    raw := fun b x hb => by
      simp only [St.ins] at hb
      split at hb
      · rename_i e; subst e; cases hb; exact World.putObj_heap_same hlt
      · rename_i e; exact (hsame b e).trans (h.raw b x hb)
    imm := fun b o v hv => by
      have h0 := h.imm b o v hv
      have hne : b ≠ l := fun e => by rw [e, hI] at hv; cases hv
      unfold World.cell? at h0 ⊢
      rw [hsame b hne]; exact h0
    sep := fun b x hb => by
      simp only [St.ins] at hb
      split at hb
      · rename_i e; subst e; exact hI
      · exact h.sep b x hb
    tk := fun k hk => by
      obtain ⟨arr, ty, e, r1, r2, r3⟩ := h.tk k hk
      have hne : k.b ≠ l := fun e => by rw [e, hl] at r3; cases r3
      exact ⟨arr, ty, (hsame _ hne).trans e, r1, r2, by simp only [St.ins]; rw [if_neg hne]; exact r3⟩
    tk1 := h.tk1
    upd := h.upd.trans ⟨rfl, rfl, rfl, by simp, fun k _ hk => hsame k (fun e => hk (by subst e; exact (h.own k (.inl ⟨_, hl⟩)).elim .inl .inr))⟩
    own := fun b hb => by
      rcases hb with ⟨o, hb⟩ | ⟨k, hk, e⟩
      · simp only [St.ins] at hb
        split at hb
        · rename_i e; subst e; exact h.own b (.inl ⟨_, hl⟩)
        · exact h.own b (.inl ⟨o, hb⟩)
      · exact h.own b (.inr ⟨k, hk, e⟩)
    le := h.le
    new := h.new }
/-- What is known behind a piece of code. -/
def Lift (B : Base) (I : Im) (n : Nat) (Q : Exit → Fr → St → Prop) (e : Exit) (a' : Act) (W' : World) : Prop :=
  ∃ J fr' st', I.le J ∧ Rel B J st' W' ∧ FrRep J n fr' a' ∧ Q e fr' st'
theorem Lift.of (h : Rel B I st W) (hf : FrRep I n fr a) {Q : Exit → Fr → St → Prop} {e : Exit} (hq : Q e fr st) : Lift B I n Q e a W := ⟨I, fr, st, Im.le.refl _, h, hf, hq⟩
theorem Lift.mono {J : Im} (hle : I.le J) {Q : Exit → Fr → St → Prop} {e : Exit} {a' : Act} {W' : World} (h : Lift B J n Q e a' W') : Lift B I n Q e a' W' := by
  obtain ⟨J', fr', st', h1, h2, h3, h4⟩ := h; exact ⟨J', fr', st', hle.trans h1, h2, h3, h4⟩
theorem ops_region {Z : Im} {ro : Option Nat} {ops : Array Oper} {vs : List VOp} (hc : compOps P n ops ops.toList = some vs) {Q : Exit → Fr → St → Prop} (hz : Z.le I) (l : List Nat) (hl : ∀ i ∈ l, i < ops.size) (hv : vops P Z (l.filterMap (vs[·]?)) (Q .normal) fr st)
    (h : Rel B I st W) (hf : FrRep I n fr a) : wpOpsIn (FR ro) 0 P ops (Lift B I n Q) l a W := by
  obtain ⟨hlen, hfit⟩ := compOps_ok hc
  refine vops_ok (cl := vs) (fun i o ho => ?_) l I fr st a W hl hz hv h hf (fun J fr' st' a' W' hle hr hf' hk => ⟨J, fr', st', hle, hr, hf', hk⟩)
  have hi := (Array.getElem?_eq_some_iff.1 ho).1
  have hlt : i < vs.length := by rw [hlen]; simpa using hi
  exact ⟨vs[i], List.getElem?_eq_getElem hlt, hfit i o _ (by simpa using ho) (List.getElem?_eq_getElem hlt)⟩
theorem filterMap_range (vs : List VOp) : (List.range vs.length).filterMap (vs[·]?) = vs := by
  apply List.ext_getElem?
  intro i
  by_cases hi : i < vs.length
  · have : ∀ (k : Nat), k ≤ vs.length → (List.range k).filterMap (vs[·]?) = vs.take k := by
      intro k
      induction k with
      | zero => simp
      | succ k ih =>
        intro hk
        rw [List.range_succ, List.filterMap_append, ih (by omega), List.take_add_one]
        have : k < vs.length := by omega
        simp [this]
    rw [this _ (Nat.le_refl _), List.take_length]
  · have : ∀ (k : Nat), k ≤ vs.length → (List.range k).filterMap (vs[·]?) = vs.take k := by
      intro k
      induction k with
      | zero => simp
      | succ k ih =>
        intro hk
        rw [List.range_succ, List.filterMap_append, ih (by omega), List.take_add_one]
        have : k < vs.length := by omega
        simp [this]
    rw [this _ (Nat.le_refl _), List.take_length]
theorem addAp_length (vs : List VOp) : (addAp vs).length = vs.length := by simp [addAp]
theorem addAp_get (vs : List VOp) (i : Nat) (v : VOp) (h : vs[i]? = some v) : ∃ v', (addAp vs)[i]? = some v' ∧ v'.dst = v.dst ∧ v'.op = v.op ∧ v'.guard = v.guard ∧ v'.pre = v.pre := by
  simp only [addAp, List.getElem?_map, List.getElem?_zipIdx, h, Option.map_some]
  refine ⟨_, rfl, ?_⟩
  repeat' split
  all_goals exact ⟨rfl, rfl, rfl, rfl⟩
theorem vops_addAp {Z : Im} {K : Fr → St → Prop} (vs : List VOp) : ∀ (l : List Nat), (∀ i ∈ l, i < vs.length) → vops P Z (l.filterMap ((addAp vs)[·]?)) K = vops P Z (l.filterMap (vs[·]?)) K
  | [], _ => rfl
  | i :: l, hl => by
    have hi := hl i (by simp)
    obtain ⟨v', h1, h2, h3, h4, _⟩ := addAp_get vs i _ (List.getElem?_eq_getElem hi)
    rw [List.filterMap_cons_some h1, List.filterMap_cons_some (List.getElem?_eq_getElem hi)]
    simp only [vops]
    rw [vops_addAp vs l (fun j hj => hl j (by simp [hj])), vop_ap h2 h3 h4]
theorem draw_region {Z : Im} {ro : Option Nat} {id : Nat} {ops : Array Oper} {vs : List VOp} (hc : compOps P n ops ops.toList = some vs) (hd : drawOk (addAp vs) = true) (ha : afterOk ops = true) {Q : Exit → Fr → St → Prop} (hz : Z.le I) (hv : vopsD P Z (addAp vs) (Q .normal) fr st)
    (h : Rel B I st W) (hf : FrRep I n fr a) : (Code.region id ops true).wpIn (FR ro) 0 P (Lift B I n Q) a W := by
  obtain ⟨hlen, hfit⟩ := compOps_ok hc
  have hls : (addAp vs).length = ops.size := by rw [addAp_length, hlen]; simp
  simp only [afterOk, Bool.and_eq_true] at ha
  obtain ⟨⟨⟨ha1, ha2⟩, ha3⟩, ha4⟩ := ha
  have hon : ∀ (j : Nat) o, ops[j]? = some o → ∀ e ∈ o.after, e.on < ops.size := fun j o ho e he => by
    simp only [List.all_eq_true] at ha1
    have := ha1 o (by have := Array.mem_of_getElem? ho; simpa using this) e (by simpa using he)
    simpa using this
  have hcl : ∀ md, Closed md ops := fun md => by cases md; exact closed_of ha3; exact closed_of ha4; exact closed_of ha2
  have hdrew : Rel B I st { W with drawn := W.drawn + 1 } := h.drew
  refine wpIn_region_draw (fun t => ?_)
  have main : ∀ md t, vops P Z ((Region.linearise md ops t).filterMap ((addAp vs)[·]?)) (Q .normal) fr st := fun md t => by
    obtain ⟨h1, h2, h3⟩ := lin_ok md ops (hcl md) hon t
    refine perm_ok _ (List.range ops.size) List.pairwise_lt_range h1 h2 (fun i hi => by have := List.mem_range.1 hi; omega) (fun i j a' b' _ _ hij hidx ha' hb' => ?_) (by rw [← hls, filterMap_range]; exact hv)
    refine drawOk_ok hd (l := Region.linearise md ops t) (fun k v i hk hi => ?_) i j a' b' hij hidx ha' hb'
    have hkl := (List.getElem?_eq_some_iff.1 hk).1
    have hkv : k < vs.length := by rw [← addAp_length]; exact hkl
    obtain ⟨v', e1, _, _, _, e5⟩ := addAp_get vs k _ (List.getElem?_eq_getElem hkv)
    rw [hk] at e1; cases e1
    have hko : ops[k]? = some ops[k] := Array.getElem?_eq_getElem (by omega)
    have hft := hfit k ops[k] _ (by simp) (List.getElem?_eq_getElem hkv)
    rw [e5, hft.pre] at hi
    obtain ⟨e, he, rfl⟩ := List.mem_map.1 hi
    obtain ⟨he1, he2⟩ := List.mem_filter.1 he
    refine h3 k _ hko e (by simpa using he1) ?_
    unfold Region.binds at he2 ⊢
    cases hg : e.ground <;> rw [hg] at he2 <;> simp at he2 ⊢
  have fin : ∀ md t, wpOpsIn (FR ro) 0 P ops (Lift B I n Q) (Region.linearise md ops t) a { W with drawn := W.drawn + 1 } := fun md t => by
    have hin : ∀ i ∈ Region.linearise md ops t, i < ops.size := fun i hi => by have := ((lin_ok md ops (hcl md) hon t).1 i).1 hi; exact List.mem_range.1 this
    have hm := main md t
    rw [vops_addAp vs _ (fun i hi => by rw [← addAp_length, hls]; exact hin i hi)] at hm
    exact ops_region hc hz _ hin hm hdrew hf
  unfold Region.schedule
  split
  · exact fin _ _
  · exact fin _ _
end
/-- The least of some numbers. -/
theorem least_of (p : Nat → Prop) (h : ∃ m, p m) : ∃ m, p m ∧ ∀ k, p k → m ≤ k := by
  obtain ⟨m, hm⟩ := h
  induction m using Nat.strongRecOn with
  | _ m ih =>
    by_cases hk : ∃ k, k < m ∧ p k
    · obtain ⟨k, hlt, hpk⟩ := hk; exact ih k hlt hpk
    · exact ⟨m, hm, fun k hpk => Nat.le_of_not_lt (fun hlt => hk ⟨k, hlt, hpk⟩)⟩
open Classical in
noncomputable def least (p : Nat → Prop) : Nat := if h : ∃ m, p m ∧ ∀ k, p k → m ≤ k then Classical.choose h else 0
theorem least_spec {p : Nat → Prop} (h : ∃ m, p m) : p (least p) ∧ ∀ k, p k → least p ≤ k := by
  have := least_of p h
  unfold least
  rw [dif_pos this]
  exact Classical.choose_spec this
end Go.Proofs.Ytddbnncimggogaa.V
end
section
set_option linter.unusedSimpArgs false
set_option linter.unusedVariables false
/- What is asked of a walk is what the program does. -/
namespace Go.Proofs.Ytddbnncimggogaa.V
open Go Go.RowKit
variable {P : Program}
theorem FrRep.args {J : Im} {n : Nat} {a : Act} {fr : Fr} (hf : FrRep J n fr a) : ∀ (ps : List Nat) (args : List AV) (vs : List Value) (t : Nat → AV) (tm : Array Value), (∀ p ∈ ps, p < n) → RepL J args vs → tm.size = n → (∀ i, Rep J (t i) (tm.getD i Go.undef)) →
    FrRep J n { t := (ps.zip args).foldl (fun t (p, v) => fun i => if i = p then v else t i) t, d := [] } { tmps := (ps.zip vs).foldl (fun tm (p, v) => tm.setIfInBounds p v) tm, defers := [] }
  | [], args, vs, t, tm, _, _, hs, ht => ⟨by simpa using hs, fun i => by simpa [Act.eval] using ht i, rfl⟩
  | p :: ps, [], [], t, tm, _, _, hs, ht => ⟨by simpa using hs, fun i => by simpa [Act.eval] using ht i, rfl⟩
  | p :: ps, x :: args, v :: vs, t, tm, hp, hr, hs, ht => by
    simp only [List.zip_cons_cons, List.foldl_cons]
    refine FrRep.args hf ps args vs _ _ (fun q hq => hp q (by simp [hq])) hr.2 (by simpa using hs) (fun i => ?_)
    have hpn := hp p (by simp)
    by_cases hi : i = p
    · subst hi
      rw [if_pos rfl, Array.getD_eq_getD_getElem?, Array.getElem?_setIfInBounds_self_of_lt (by omega)]
      exact hr.1
    · rw [if_neg hi, Array.getD_eq_getD_getElem?, Array.getElem?_setIfInBounds_ne (fun e => hi e.symm), ← Array.getD_eq_getD_getElem?]
      exact ht i
  | _ :: _, [], _ :: _, _, _, _, h, _, _ => h.elim
  | _ :: _, _ :: _, [], _, _, _, h, _, _ => h.elim
theorem jump_ok {B : Base} {I : Im} {st : St} {W : World} {fr : Fr} {a : Act} {n : Nat} {ro : Option Nat} {Q : Exit → Fr → St → Prop} (h : Rel B I st W) (hf : FrRep I n fr a) {p : Option Code} (hj : jumpQ Q p fr st) :
    match p with
    | none => Lift B I n Q .normal a W
    | some c => c.wpIn (FR ro) 0 P (Lift B I n Q) a W := by
  cases p with
  | none => exact .of h hf hj
  | some c => cases c <;> simp only [jumpQ] at hj <;> first | exact hj.elim | skip
              · exact wpIn_exit (.of h hf hj)
              · exact wpIn_goto (.of h hf hj)
              · exact wpIn_ret (.of h hf hj)
/-- A yield, out of the walk of a round. -/
theorem yield_of {n : Nat} {fr : Fr} {a : Act} {I : Im} {l : Nat} {r : Loop} {vasg vbody : VCode} (hfr : FrRep I n fr a) (hr : r.tmps = a.tmps) (hps : ∀ p ∈ r.params.toList, p < n)
    (ihA : ∀ (Z : Im) (ro : Option Nat) (Q : Exit → Fr → St → Prop) (B : Base) (I : Im) (fr : Fr) (st : St) (a : Act) (W : World), Z.le I → vwp P vasg Z ro Q fr st → Rel B I st W → FrRep I n fr a → r.assign.wpIn (FR ro) 0 P (Lift B I n Q) a W)
    (ihB : ∀ (Z : Im) (ro : Option Nat) (Q : Exit → Fr → St → Prop) (B : Base) (I : Im) (fr : Fr) (st : St) (a : Act) (W : World), Z.le I → vwp P vbody Z ro Q fr st → Rel B I st W → FrRep I n fr a → r.body.wpIn (FR ro) 0 P (Lift B I n Q) a W)
    (args : List AV) (st' : St) (K : AV → St → Prop) (hlen : args.length = r.params.toList.length) (hl : st'.objs l = some (lobj r .ready none))
    (hv : vwp P vasg I (some l) (fun e fr1 st1 => e = .normal ∧ st1.objs l = some (lobj r .ready none) ∧ vwp P vbody I (some l) (roundQ l r K) fr1 (st1.ins l (lobj r .busy none))) (argsFr r.params.toList args fr) st') : VYield P I l args st' K := by
  intro B' I' W' vs hz hrel hargs
  have hL := hrel.raw l _ hl
  have hsz : vs.size = r.params.size := by have := hargs.length; simp at this hlen; omega
  have hy := run_yield (P := P) (args := vs) hL (by simpa using hsz)
  refine ⟨_, _, _, _, hy, roundIn_of_wpIn trivial ?_⟩
  have hf' : FrRep I' n (argsFr r.params.toList args fr) { tmps := (r.params.zip vs).foldl (fun tmps (t, a) => tmps.setIfInBounds t a) r.tmps, defers := [] } := by
    have hb : FrRep I' n fr a := ⟨hfr.size, fun i => (hfr.rep i).mono hz, hfr.defs⟩
    have := FrRep.args hb r.params.toList args vs.toList fr.t r.tmps hps hargs (by rw [hr]; exact hfr.size) (fun i => by have := hb.rep i; rw [hr]; simpa [Act.eval] using this)
    have e : (r.params.zip vs).foldl (fun tmps (t, a) => tmps.setIfInBounds t a) r.tmps = (r.params.toList.zip vs.toList).foldl (fun tm (p, v) => tm.setIfInBounds p v) r.tmps := by
      rw [← Array.foldl_toList]; simp
    rw [e]; exact this
  have hA := ihA I (some l) _ B' I' _ st' _ W' hz hv hrel hf'
  refine wpIn_mono (hA : r.assign.wpIn (Fence.wide.inRound l) 0 P _ _ _) (fun e a1 W1 => ?_)
  rintro ⟨J, fr1, st1, hle1, hr1, hf1, rfl, hl1, hv1⟩
  have hL1 := hr1.raw l _ hl1
  refine ⟨_, run_beginRound hL1 rfl, ?_⟩
  have hr2 := hr1.put_raw (o' := .loop { r with state := .busy, pending := none }) hl1
  have hB := ihB I (some l) _ B' J fr1 _ a1 _ (hz.trans hle1) hv1 hr2 hf1
  refine wpIn_mono (hB : r.body.wpIn (Fence.wide.inRound l) 0 P _ _ _) (fun e2 a2 W2 => ?_)
  rintro ⟨J2, fr2, st2, hle2, hr3, hf3, hq⟩
  cases e2 <;> simp only [roundQ] at hq <;> first | exact hq.elim | skip
  all_goals (
    obtain ⟨hl2, hk⟩ := hq
    have hL2 := hr3.raw l _ hl2
    have hend := fun j => run_endRound (P := P) j hL2
    simp only [roundPost])
  · exact ⟨_, _, hend none, _, J2, _, .bool true, rfl, hle1.trans hle2, hr3.put_raw hl2, by simp only [Rep]; rfl, hk⟩
  · exact ⟨_, _, hend _, _, J2, _, .bool false, rfl, hle1.trans hle2, hr3.put_raw hl2, by simp only [Rep]; rfl, hk⟩
  · exact ⟨_, _, hend _, _, J2, _, .bool false, rfl, hle1.trans hle2, hr3.put_raw hl2, by simp only [Rep]; rfl, hk⟩
  · exact ⟨_, _, hend _, _, J2, _, .bool false, rfl, hle1.trans hle2, hr3.put_raw hl2, by simp only [Rep]; rfl, hk⟩
theorem find_ok {n : Nat} : ∀ (c : Code) (vc : VCode), comp P n c = some vc → ∀ (l : Nat) (vr : VCode), vfind vc l = some vr → ∃ rest, findLabel c l = some rest ∧ comp P n rest = some vr := by
  intro c
  induction c with
  | seq x y ihx ihy =>
    intro vc hc l vr hv
    simp only [comp] at hc
    split at hc
    · rename_i vx vy h1 h2
      cases hc
      simp only [vfind] at hv
      cases hfx : vfind vx l with
      | some r =>
        rw [hfx] at hv; cases hv
        obtain ⟨rest, q1, q2⟩ := ihx vx h1 l r hfx
        exact ⟨.seq rest y, by simp [findLabel, q1], by simp [comp, q2, h2]⟩
      | none =>
        rw [hfx] at hv
        obtain ⟨rest, q1, q2⟩ := ihy vy h2 l vr hv
        have hn : findLabel x l = none := by
          have none_of : ∀ (c : Code) (vc : VCode), comp P n c = some vc → vfind vc l = none → findLabel c l = none := by
            intro c
            induction c with
            | seq a b iha ihb =>
              intro vc hc hv
              simp only [comp] at hc
              split at hc
              · rename_i va vb g1 g2
                cases hc
                simp only [vfind] at hv
                cases hfa : vfind va l with
                | some r => rw [hfa] at hv; cases hv
                | none => rw [hfa] at hv; simp [findLabel, iha va g1 hfa, ihb vb g2 hv]
              · cases hc
            | label l' => intro vc hc hv; cases hc; simp only [vfind] at hv; simp only [findLabel]; split at hv; cases hv; rename_i h; rw [if_neg h]
            | _ => intro vc hc hv; rfl
          exact none_of x vx h1 hfx
        exact ⟨rest, by simp [findLabel, hn, q1], q2⟩
    · cases hc
  | label l' =>
    intro vc hc l vr hv
    cases hc
    simp only [vfind] at hv
    obtain ⟨h1, rfl⟩ := ite_some hv
    exact ⟨.skip, by simp only [findLabel]; rw [if_pos h1], rfl⟩
  | skip => intro vc hc l vr hv; cases hc; cases hv
  | exit id => intro vc hc l vr hv; cases hc; cases hv
  | ret => intro vc hc l vr hv; cases hc; cases hv
  | goto t => intro vc hc l vr hv; cases hc; cases hv
  | refuse s => intro vc hc; cases hc
  | block id b _ => intro vc hc l vr hv; obtain ⟨vb, _, rfl⟩ := Option.map_eq_some_iff.1 hc; cases hv
  | loop b _ => intro vc hc l vr hv; obtain ⟨vb, _, rfl⟩ := Option.map_eq_some_iff.1 hc; cases hv
  | region id ops draw =>
    intro vc hc l vr hv
    cases draw with
    | false => obtain ⟨vb, _, rfl⟩ := Option.map_eq_some_iff.1 hc; cases hv
    | true =>
      simp only [comp] at hc
      split at hc
      · obtain ⟨_, rfl⟩ := ite_some hc; cases hv
      · cases hc
  | cond c x y _ _ =>
    intro vc hc l vr hv
    simp only [comp] at hc
    split at hc
    · cases hc; cases hv
    · cases hc
  | scope b _ =>
    intro vc hc l vr hv
    simp only [comp] at hc
    split at hc
    · split at hc
      · split at hc
        · cases hc; cases hv
        · cases hc
      · cases hc
    · cases hc
  | rangeFunc g ps a b _ _ =>
    intro vc hc l vr hv
    simp only [comp] at hc
    split at hc
    · obtain ⟨_, rfl⟩ := ite_some hc; cases hv
    · cases hc
def deep : Code → Nat
  | .seq a b => deep a + deep b + 1
  | .cond _ a b => deep a + deep b + 1
  | .block _ a | .loop a | .scope a => deep a + 1
  | .rangeFunc _ _ a b => deep a + deep b + 1
  | _ => 1
theorem deep_pos (c : Code) : 0 < deep c := by cases c <;> simp [deep]
theorem find_deep : ∀ (c : Code) (l : Nat) (r : Code), findLabel c l = some r → deep r ≤ deep c
  | .seq a b, l, r, h => by
    simp only [findLabel] at h
    cases ha : findLabel a l with
    | some x => rw [ha] at h; cases h; have := find_deep a l x ha; simp only [deep]; omega
    | none => rw [ha] at h; have := find_deep b l r h; simp only [deep]; omega
  | .label l', l, r, h => by simp only [findLabel] at h; obtain ⟨_, rfl⟩ := ite_some h; simp [deep]
  | .skip, _, _, h => by simp [findLabel] at h
  | .region .., _, _, h => by simp [findLabel] at h
  | .cond .., _, _, h => by simp [findLabel] at h
  | .block .., _, _, h => by simp [findLabel] at h
  | .loop .., _, _, h => by simp [findLabel] at h
  | .rangeFunc .., _, _, h => by simp [findLabel] at h
  | .exit .., _, _, h => by simp [findLabel] at h
  | .scope .., _, _, h => by simp [findLabel] at h
  | .goto .., _, _, h => by simp [findLabel] at h
  | .ret, _, _, h => by simp [findLabel] at h
  | .refuse .., _, _, h => by simp [findLabel] at h
theorem vwp_aux {n : Nat} : ∀ (N : Nat) (c : Code), deep c ≤ N → ∀ (vc : VCode), comp P n c = some vc → ∀ (Z : Im) (ro : Option Nat) (Q : Exit → Fr → St → Prop) (B : Base) (I : Im) (fr : Fr) (st : St) (a : Act) (W : World), Z.le I → vwp P vc Z ro Q fr st → Rel B I st W → FrRep I n fr a →
    c.wpIn (FR ro) 0 P (Lift B I n Q) a W := by
  intro N
  induction N with
  | zero => intro c hN; have := deep_pos c; omega
  | succ N ih =>
  intro c hN
  cases c with
  | skip => intro vc hc Z ro Q B I fr st a W hz hv h hf; cases hc; exact wpIn_skip (.of h hf hv)
  | label l => intro vc hc Z ro Q B I fr st a W hz hv h hf; cases hc; exact wpIn_label (.of h hf hv)
  | exit id => intro vc hc Z ro Q B I fr st a W hz hv h hf; cases hc; exact wpIn_exit (.of h hf hv)
  | ret => intro vc hc Z ro Q B I fr st a W hz hv h hf; cases hc; exact wpIn_ret (.of h hf hv)
  | goto t => intro vc hc Z ro Q B I fr st a W hz hv h hf; cases hc; exact wpIn_goto (.of h hf hv)
  | refuse s => intro vc hc; cases hc
  | scope b =>
    intro vc hc Z ro Q B I fr st a W hz hv h hf
    simp only [comp] at hc
    split at hc
    · rename_i vb hb
      split at hc
      · rename_i l hl
        split at hc
        · rename_i vr hvr
          cases hc
          simp only [vwp] at hv
          obtain ⟨rfl, J, μ, hfirst, hpass⟩ := hv
          obtain ⟨rest, hrest, hcr⟩ := find_ok b vb hb l vr hvr
          have hdr := find_deep b l rest hrest
          simp only [deep] at hN
          have ihb := ih b (by omega) vb hb
          have ihr := ih rest (by omega) vr hcr
          let p : Act → World → Nat → Prop := fun a' W' m => ∃ K fr' st', I.le K ∧ Rel B K st' W' ∧ FrRep K n fr' a' ∧ J fr' st' ∧ μ fr' st' = m
          refine wpIn_wide.2 (wp_scope_jumps l (fun a' W' => ∃ m, p a' W' m) (fun a' W' => least (p a' W')) hrest (wpIn_wide (n := 0).1 ?_) (fun a1 W1 hex => ?_))
          · refine wpIn_mono (ihb Z none _ B I fr st a W hz hfirst h hf) (fun e a2 W2 => ?_)
            rintro ⟨K, fr2, st2, hle2, hr2, hf2, hq⟩
            cases e with
            | goto l' => exact ⟨hq.1, _, K, fr2, st2, hle2, hr2, hf2, hq.2, rfl⟩
            | normal => exact ⟨K, fr2, st2, hle2, hr2, hf2, hq⟩
            | exit id => exact ⟨K, fr2, st2, hle2, hr2, hf2, hq⟩
            | ret => exact ⟨K, fr2, st2, hle2, hr2, hf2, hq⟩
            | panic ch => exact ⟨K, fr2, st2, hle2, hr2, hf2, hq⟩
            | outgrown => exact ⟨K, fr2, st2, hle2, hr2, hf2, hq⟩
          · obtain ⟨⟨K, fr1, st1, hle, hr, hf1, hi1, hm⟩, _⟩ := least_spec hex
            refine wpIn_wide (n := 0).1 (wpIn_mono (ihr Z none _ B K fr1 st1 a1 W1 (hz.trans hle) (hpass fr1 st1 hi1) hr hf1) (fun e a2 W2 => ?_))
            rintro ⟨K2, fr2, st2, hle2, hr2, hf2, hq⟩
            cases e with
            | goto l' =>
              obtain ⟨e, s, hs, hi2, hlt⟩ := hq
              have hp2 : p a2 W2 (μ fr2 s) := ⟨K2, fr2, s, hle.trans hle2, hr2.weaken hs, hf2, hi2, rfl⟩
              exact ⟨e, ⟨_, hp2⟩, by have := (least_spec ⟨_, hp2⟩).2 _ hp2; omega⟩
            | normal => exact ⟨K2, fr2, st2, hle.trans hle2, hr2, hf2, hq⟩
            | exit id => exact ⟨K2, fr2, st2, hle.trans hle2, hr2, hf2, hq⟩
            | ret => exact ⟨K2, fr2, st2, hle.trans hle2, hr2, hf2, hq⟩
            | panic ch => exact ⟨K2, fr2, st2, hle.trans hle2, hr2, hf2, hq⟩
            | outgrown => exact ⟨K2, fr2, st2, hle.trans hle2, hr2, hf2, hq⟩
        · cases hc
      · cases hc
    · cases hc
  | region id ops draw =>
    intro vc hc Z ro Q B I fr st a W hz hv h hf
    cases draw with
    | false =>
      obtain ⟨vs, hvs, rfl⟩ := Option.map_eq_some_iff.1 hc
      simp only [vwp] at hv
      have hls : vs.length = ops.size := by rw [(compOps_ok hvs).1]; simp
      exact wpIn_region (ops_region hvs hz _ (fun i hi => List.mem_range.1 hi) (by rw [← hls, filterMap_range]; exact hv) h hf)
    | true =>
      simp only [comp] at hc
      split at hc
      · rename_i vs hvs
        obtain ⟨⟨hd, ha⟩, rfl⟩ := ite_some hc
        simp only [vwp] at hv
        exact draw_region hvs hd ha hz hv h hf
      · cases hc
  | seq x y =>
    simp only [deep] at hN
    have ihx := ih x (by omega)
    have ihy := ih y (by omega)
    intro vc hc Z ro Q B I fr st a W hz hv h hf
    simp only [comp] at hc
    split at hc
    · rename_i vx vy h1 h2
      cases hc
      simp only [vwp] at hv
      refine wpIn_seq (wpIn_mono (ihx vx h1 Z ro _ B I fr st a W hz hv h hf) (fun e a' W' => ?_))
      rintro ⟨J, fr', st', hle, hr, hf', hq⟩
      cases e with
      | normal => exact wpIn_mono (ihy vy h2 Z ro Q B J fr' st' a' W' (hz.trans hle) hq hr hf') (fun e a2 W2 hl => hl.mono hle)
      | exit id => exact ⟨J, fr', st', hle, hr, hf', hq⟩
      | goto t => exact ⟨J, fr', st', hle, hr, hf', hq⟩
      | ret => exact ⟨J, fr', st', hle, hr, hf', hq⟩
      | panic ch => exact ⟨J, fr', st', hle, hr, hf', hq⟩
      | outgrown => exact ⟨J, fr', st', hle, hr, hf', hq⟩
    · cases hc
  | cond c x y =>
    simp only [deep] at hN
    have ihx := ih x (by omega)
    have ihy := ih y (by omega)
    intro vc hc Z ro Q B I fr st a W hz hv h hf
    simp only [comp] at hc
    split at hc
    · rename_i vc' vx vy h0 h1 h2
      cases hc
      simp only [vwp, condQ] at hv
      have hcr := compE_ok hf h0
      split at hv
      · rename_i t ht
        rw [ht] at hcr; simp only [Rep] at hcr
        refine wpIn_cond_split hcr (fun e => ihx vx h1 Z ro Q B I fr st a W hz (hv.1 e) h hf) (fun e => ihy vy h2 Z ro Q B I fr st a W hz (hv.2 e) h hf)
      · exact hv.elim
    · cases hc
  | block id b =>
    simp only [deep] at hN
    have ih := ih b (by omega)
    intro vc hc Z ro Q B I fr st a W hz hv h hf
    obtain ⟨vb, hb, rfl⟩ := Option.map_eq_some_iff.1 hc
    simp only [vwp] at hv
    refine wpIn_block (wpIn_mono (ih vb hb Z ro _ B I fr st a W hz hv h hf) (fun e a' W' => ?_))
    rintro ⟨J, fr', st', hle, hr, hf', hq⟩
    cases e with
    | exit id' =>
      simp only [Exit.inBlock, blockQ] at hq ⊢
      split
      · rename_i e; rw [if_pos e] at hq; exact ⟨J, fr', st', hle, hr, hf', hq⟩
      · rename_i e; rw [if_neg e] at hq; exact ⟨J, fr', st', hle, hr, hf', hq⟩
    | normal => exact ⟨J, fr', st', hle, hr, hf', hq⟩
    | goto t => exact ⟨J, fr', st', hle, hr, hf', hq⟩
    | ret => exact ⟨J, fr', st', hle, hr, hf', hq⟩
    | panic ch => exact ⟨J, fr', st', hle, hr, hf', hq⟩
    | outgrown => exact ⟨J, fr', st', hle, hr, hf', hq⟩
  | loop b =>
    simp only [deep] at hN
    have ih := ih b (by omega)
    intro vc hc Z ro Q B I fr st a W hz hv h hf
    obtain ⟨vb, hb, rfl⟩ := Option.map_eq_some_iff.1 hc
    simp only [vwp] at hv
    obtain ⟨Inv, μ, h0, hround⟩ := hv
    let p : Act → World → Nat → Prop := fun a' W' m => ∃ J fr' st', I.le J ∧ Rel B J st' W' ∧ FrRep J n fr' a' ∧ Inv fr' st' ∧ μ fr' st' = m
    refine wpIn_loop (fun a' W' => ∃ m, p a' W' m) (fun a' W' => least (p a' W')) ⟨_, I, fr, st, Im.le.refl _, h, hf, h0, rfl⟩ (fun a1 W1 hex => ?_)
    obtain ⟨⟨J, fr1, st1, hle, hr, hf1, hi1, hm⟩, _⟩ := least_spec hex
    refine wpIn_mono (ih vb hb Z ro _ B J fr1 st1 a1 W1 (hz.trans hle) (hround fr1 st1 hi1) hr hf1) (fun e a2 W2 => ?_)
    rintro ⟨J2, fr2, st2, hle2, hr2, hf2, hq⟩
    cases e with
    | normal =>
      obtain ⟨s, hs, hi2, hlt⟩ := hq
      have hp2 : p a2 W2 (μ fr2 s) := ⟨J2, fr2, s, hle.trans hle2, hr2.weaken hs, hf2, hi2, rfl⟩
      exact ⟨⟨_, hp2⟩, by have := (least_spec ⟨_, hp2⟩).2 _ hp2; omega⟩
    | exit id => exact ⟨J2, fr2, st2, hle.trans hle2, hr2, hf2, hq⟩
    | goto t => exact ⟨J2, fr2, st2, hle.trans hle2, hr2, hf2, hq⟩
    | ret => exact ⟨J2, fr2, st2, hle.trans hle2, hr2, hf2, hq⟩
    | panic ch => exact ⟨J2, fr2, st2, hle.trans hle2, hr2, hf2, hq⟩
    | outgrown => exact ⟨J2, fr2, st2, hle.trans hle2, hr2, hf2, hq⟩
  | rangeFunc g ps asg body =>
    simp only [deep] at hN
    have ihA := ih asg (by omega)
    have ihB := ih body (by omega)
    intro vc hc Z ro Q B I fr st a W hz hv h hf
    simp only [comp] at hc
    split at hc
    · rename_i vg va vb h0 h1 h2
      obtain ⟨hps, rfl⟩ := ite_some hc
      have hps' : ∀ p ∈ ps.toList, p < n := fun p hp => by simpa using List.all_eq_true.1 hps p hp
      have hg := compE_ok hf h0
      simp only [vwp] at hv
      split at hv
      case h_2 => exact hv.elim
      rename_i gf fs cs hgc
      rw [hgc] at hg; simp only [Rep] at hg
      obtain ⟨us, vs, hge, hus, hvs⟩ := hg
      refine wpIn_rangeFunc (fun fn _ => ?_)
      cases ro with
      | none =>
        -- an outermost one
        obtain ⟨r, hr⟩ : ∃ r : Loop, r = { state := .ready, pending := none, fn, tmps := a.tmps, params := ps, assign := asg, body, defers := W.heap.size } := ⟨_, rfl⟩
        have hv := hv I (W.heap.size + 1) W.heap.size r hz (h.fresh (by omega)) (h.fresh (Nat.le_refl _)) (by omega)
          (fun args st' K hlen hl hw => yield_of (r := r) hf (by rw [hr]) (by rw [hr]; exact hps') (by rw [hr]; exact ihA va h1) (by rw [hr]; exact ihB vb h2) args st' K (by rw [hr]; exact hlen) hl (by rw [hr] at hw ⊢; exact hw))
        have hR1 : Rel B I (st.ins W.heap.size dobj) (W.alloc (.deferred (some []))) := (h.alloc_any _).ins_raw (heap_new _ _) (h.immNone (Nat.le_refl _)) (fun k hk e => by have := h.live_lt hk; omega) (.inr h.upd.size)
        have hnew := heap_new (W.alloc (.deferred (some []))) (.loop r)
        rw [World.size_alloc] at hnew
        have hR2 : Rel B I ((st.ins W.heap.size dobj).ins (W.heap.size + 1) (lobj r .ready none)) ((W.alloc (.deferred (some []))).alloc (.loop r)) := by
          have e : lobj r .ready none = .raw (.loop r) := by rw [hr]; rfl
          rw [e]
          exact (hR1.alloc_any _).ins_raw hnew (hR1.immNone (by simp)) (fun k hk e => by have := hR1.live_lt hk; simp at this; omega) (.inr (by have := h.upd.size; omega))
        have hargs : RepL I (fs ++ [.yld (W.heap.size + 1)] ++ cs) (us ++ #[Value.func (.yield (W.heap.size + 1)) #[] #[]] ++ vs).toList := by
          simpa using (hus.append (bs := [.yld (W.heap.size + 1)]) (us := [.func (.yield (W.heap.size + 1)) #[] #[]]) ⟨by simp only [Rep], trivial⟩).append hvs
        have hcall := hv.2 B I _ _ (Im.le.refl _) hR2 hargs
        refine ⟨W.heap.size + 1, [mark W.heap.size], (W.alloc (.deferred (some []))).alloc (.loop r), { target := .fn (.func gf) vs, args := us ++ #[.func (.yield (W.heap.size + 1)) #[] #[]] }, (W.alloc (.deferred (some []))).alloc (.loop r), gf, us ++ #[.func (.yield (W.heap.size + 1)) #[] #[]] ++ vs, (W.alloc (.deferred (some []))).alloc (.loop r), ?_, ?_, fun f' _ => trivial, ?_, fun e => by simp [FR, Fence.wide] at e, ?_⟩
        · rw [hr]; exact run_enterLoop_outer _ _ _ _ _
        · simp only [resolve, hge]; simp [Deferred.ofValue, Act.eval]
        · simp only [invoke]; exact hv.1 _ _
        · have c0 : CallsIn (FR none) (0 - 1) P gf _ _ _ := callsIn_wide (n := 0) |>.2 hcall
          refine CallsIn.mono c0 (fun e W3 => ?_)
          rintro ⟨u, J, st3, v, rfl, hle, hr3, _, s, p, hnb, hl3, hj⟩
          have hL3 := hr3.raw _ _ hl3
          refine ⟨p, _, run_endLoop (P := P) hL3 hnb, ?_⟩
          have hr4 := hr3.put_raw (o' := .loop { r with state := .exhausted, pending := p }) hl3
          have hf4 : FrRep J n { fr with d := W.heap.size :: fr.d } { a with defers := [mark W.heap.size] ++ a.defers } := ⟨hf.size, fun i => (hf.rep i).mono hle, by simp [hf.defs]⟩
          have := jump_ok (P := P) (ro := none) hr4 hf4 hj
          cases p with
          | none => exact Lift.mono hle this
          | some c => exact wpIn_mono this (fun e a2 W2 hl => hl.mono hle)
      | some l0 =>
        -- one within a round
        obtain ⟨⟨r0, s0, p0, hl0⟩, hv⟩ := hv
        have hL0 := h.raw _ _ hl0
        obtain ⟨r, hr⟩ : ∃ r : Loop, r = { state := .ready, pending := none, fn, tmps := a.tmps, params := ps, assign := asg, body, defers := r0.defers } := ⟨_, rfl⟩
        have hv := hv I W.heap.size r hz (h.fresh (Nat.le_refl _))
          (fun args st' K hlen hl hw => yield_of (r := r) hf (by rw [hr]) (by rw [hr]; exact hps') (by rw [hr]; exact ihA va h1) (by rw [hr]; exact ihB vb h2) args st' K (by rw [hr]; exact hlen) hl (by rw [hr] at hw ⊢; exact hw))
        have hR2 : Rel B I (st.ins W.heap.size (lobj r .ready none)) (W.alloc (.loop r)) := by
          have e : lobj r .ready none = .raw (.loop r) := by rw [hr]; rfl
          rw [e]
          exact (h.alloc_any _).ins_raw (heap_new _ _) (h.immNone (Nat.le_refl _)) (fun k hk e => by have := h.live_lt hk; omega) (.inr h.upd.size)
        have hargs : RepL I (fs ++ [.yld W.heap.size] ++ cs) (us ++ #[Value.func (.yield W.heap.size) #[] #[]] ++ vs).toList := by
          simpa using (hus.append (bs := [.yld W.heap.size]) (us := [.func (.yield W.heap.size) #[] #[]]) ⟨by simp only [Rep], trivial⟩).append hvs
        have hcall := hv.2 B I _ _ (Im.le.refl _) hR2 hargs
        refine ⟨W.heap.size, [], W.alloc (.loop r), { target := .fn (.func gf) vs, args := us ++ #[.func (.yield W.heap.size) #[] #[]] }, W.alloc (.loop r), gf, us ++ #[.func (.yield W.heap.size) #[] #[]] ++ vs, W.alloc (.loop r), ?_, ?_, fun f' _ => trivial, ?_, fun e => by simp [FR, Fence.wide] at e, ?_⟩
        · rw [hr]; exact run_enterLoop_inner hL0 _ _ _ _ _
        · simp only [resolve, hge]; simp [Deferred.ofValue, Act.eval]
        · simp only [invoke]; exact hv.1 _ _
        · have c0 : CallsIn (FR (some l0)) (0 - 1) P gf _ _ _ := callsIn_wide (n := 0) |>.2 hcall
          refine CallsIn.mono c0 (fun e W3 => ?_)
          rintro ⟨u, J, st3, v, rfl, hle, hr3, _, s, p, hnb, hl3, hj⟩
          have hL3 := hr3.raw _ _ hl3
          refine ⟨p, _, run_endLoop (P := P) hL3 hnb, ?_⟩
          have hr4 := hr3.put_raw (o' := .loop { r with state := .exhausted, pending := p }) hl3
          have hf4 : FrRep J n fr { a with defers := [] ++ a.defers } := ⟨hf.size, fun i => (hf.rep i).mono hle, by simp [hf.defs]⟩
          have := jump_ok (P := P) (ro := some l0) hr4 hf4 hj
          cases p with
          | none => exact Lift.mono hle this
          | some c => exact wpIn_mono this (fun e a2 W2 hl => hl.mono hle)
    · cases hc
theorem vwp_ok {n : Nat} (c : Code) (vc : VCode) (hc : comp P n c = some vc) (Z : Im) (ro : Option Nat) (Q : Exit → Fr → St → Prop) (B : Base) (I : Im) (fr : Fr) (st : St) (a : Act) (W : World) (hz : Z.le I) (hv : vwp P vc Z ro Q fr st) (h : Rel B I st W) (hf : FrRep I n fr a) :
    c.wpIn (FR ro) 0 P (Lift B I n Q) a W := vwp_aux (deep c) c (Nat.le_refl _) vc hc Z ro Q B I fr st a W hz hv h hf
end Go.Proofs.Ytddbnncimggogaa.V
end
section
set_option linter.unusedSimpArgs false
set_option linter.unusedVariables false
/- A function's contract, out of its walk. -/
namespace Go.Proofs.Ytddbnncimggogaa.V
open Go Go.RowKit
inductive RV where
  | t (i : Nat)
  | c (i n : Nat) (ag : Bool)
  deriving Inhabited
structure VFn where
  code : VCode
  rs : List RV
  n : Nat
  deriving Inhabited
def compR (P : Program) : List ResultVar → Option (List RV)
  | [] => some []
  | .tmp t :: r => match compR P r with | some l => some (.t t :: l) | none => none
  | .cell a t :: r => match P.underlying t, P.info? t, compR P r with | some d, some i, some l => some (.c a i.size d.isRow :: l) | _, _, _ => none
def compF (P : Program) (f : Nat) : Option VFn := match P.funcs[f]? with
  | some fn => match fn.body with
    | some c => if (fn.name == "runtime.NumGoroutine") = false then match comp P fn.ntmps c, compR P fn.results.toList with
        | some vc, some rs => some ⟨vc, rs, fn.ntmps⟩
        | _, _ => none else none
    | none => none
  | none => none
def retvs (t : Nat → AV) (st : St) : List RV → Option (List AV)
  | [] => some []
  | .t i :: r => match retvs t st r with | some l => some (t i :: l) | none => none
  | .c i n ag :: r => match vload st (t i) n ag, retvs t st r with | some v, some l => some (v :: l) | _, _ => none
def tupOf : List AV → AV
  | [v] => v
  | vs => .tup vs
def retQ (rs : List RV) (K : AV → St → Prop) : Exit → Fr → St → Prop
  | .normal, fr, st | .ret, fr, st => ∃ vs s, retvs fr.t st rs = some vs ∧ (∀ D ∈ fr.d, st.objs D = some dobj ∧ s.objs D = none) ∧ fr.d.Nodup ∧ s.le st ∧ K (tupOf vs) s
  | _, _, _ => False
def initFr (args : List AV) : Fr := { t := fun i => match args[i]? with | some a => a | none => .no, d := [] }
variable {P : Program}
section
variable {B : Base} {I : Im} {st : St} {W : World} {fr : Fr} {a : Act} {n : Nat}
theorem vload_raw {D : Nat} {o o' : Obj} (hD : st.objs D = some (.raw o)) {x v : AV} {m : Nat} {ag : Bool} (h : vload st x m ag = some v) : vload (st.ins D (.raw o')) x m ag = some v := by
  unfold vload at h ⊢
  split at h
  · rename_i b off
    split at h
    · rename_i cs hcs
      have hne : b ≠ D := fun e => by rw [e, hD] at hcs; cases hcs
      simp only [St.ins, if_neg hne, hcs]; exact h
    · cases h
  · exact h
  · cases h
theorem retvs_raw {D : Nat} {o o' : Obj} (hD : st.objs D = some (.raw o)) : ∀ {rs : List RV} {vs : List AV}, retvs fr.t st rs = some vs → retvs fr.t (st.ins D (.raw o')) rs = some vs
  | [], _, h => h
  | .t i :: r, vs, h => by
    simp only [retvs] at h ⊢
    cases hr : retvs fr.t st r with
    | none => rw [hr] at h; cases h
    | some l => rw [hr] at h; rw [retvs_raw hD hr]; exact h
  | .c i m ag :: r, vs, h => by
    simp only [retvs] at h ⊢
    cases hv : vload st (fr.t i) m ag with
    | none => rw [hv] at h; cases h
    | some v =>
      rw [hv] at h
      cases hr : retvs fr.t st r with
      | none => rw [hr] at h; cases h
      | some l => rw [hr] at h; rw [vload_raw hD hv, retvs_raw hD hr]; exact h
def resOne (tmps : Array Value) : ResultVar → Sem Value
  | .tmp t => pure (tmps.getD t Go.undef)
  | .cell b t => do loadVar t (← asAddr (tmps.getD b Go.undef))
theorem results_eq (fn : Func) (tmps : Array Value) : results fn tmps = (do let vs ← fn.results.mapM (resOne tmps); pure (if h : vs.size = 1 then vs[0] else .tuple vs)) := by
  unfold results
  congr 1
theorem results_ok (h : Rel B I st W) (hf : ∀ i, Rep I (fr.t i) (a.eval (.tmp i))) : ∀ {rv : List ResultVar} {rs : List RV}, compR P rv = some rs → ∀ {vs : List AV}, retvs fr.t st rs = some vs →
    ∃ us : List Value, (rv.mapM (resOne a.tmps)).run P W = .ok us W ∧ RepL I vs us
  | [], rs, hc, vs, hr => by simp [compR] at hc; subst hc; simp [retvs] at hr; subst hr; exact ⟨[], by simp, by simp [RepL]⟩
  | .tmp t :: r, rs, hc, vs, hr => by
    simp only [compR] at hc
    split at hc
    · rename_i l hl
      cases hc
      simp only [retvs] at hr
      split at hr
      · rename_i l' hl'
        cases hr
        obtain ⟨us, h1, h2⟩ := results_ok h hf hl hl'
        refine ⟨a.tmps.getD t Go.undef :: us, ?_, hf t, h2⟩
        rw [List.mapM_cons, Sem.run_bind]
        simp only [resOne, Sem.run_pure, Result.andThen_ok]
        rw [Sem.run_bind, h1]; rfl
      · cases hr
    · cases hc
  | .cell b t :: r, rs, hc, vs, hr => by
    simp only [compR] at hc
    split at hc
    · rename_i d i l hu hi hl
      cases hc
      simp only [retvs] at hr
      split at hr
      · rename_i v l' hv hl'
        cases hr
        obtain ⟨us, h1, h2⟩ := results_ok h hf hl hl'
        obtain ⟨z, hz, hrz⟩ := vload_ok h hu hi (hf b) hv
        have : (do loadVar t (← asAddr (a.tmps.getD b Go.undef)) : Sem Value).run P W = .ok z W := by
          have hrep := hf b
          unfold vload at hv
          have e : a.eval (.tmp b) = a.tmps.getD b Go.undef := rfl
          rw [e] at hz hrep
          split at hv
          · rename_i b' off hb'
            rw [hb'] at hrep; simp only [Rep] at hrep
            rw [hrep] at hz ⊢
            simpa [Instr.loadAt, Instr.sureAddr, asAddr] using hz
          · rename_i x off hb'
            rw [hb'] at hrep; simp only [Rep] at hrep
            obtain ⟨b', o, u, hrep, _⟩ := hrep
            rw [hrep] at hz ⊢
            simpa [Instr.loadAt, Instr.sureAddr, asAddr] using hz
          · cases hv
        refine ⟨z :: us, ?_, hrz, h2⟩
        rw [List.mapM_cons, Sem.run_bind]
        simp only [resOne]
        rw [this]
        simp only [Result.andThen_ok]
        rw [Sem.run_bind, h1]; rfl
      · cases hr
    · cases hc
theorem leaves_ok {fn : Func} {K : AV → St → Prop} {rs : List RV} (hrs : compR P fn.results.toList = some rs) {R : Ending → World → Prop}
    (hR : ∀ u W' v s, Rel B I s W' → Rep I v u → K v s → R (.returned u) W') : ∀ (ds : List Nat) (st : St) (W : World), Rel B I st W → (∀ i, Rep I (fr.t i) (a.eval (.tmp i))) →
      (∃ vs s, retvs fr.t st rs = some vs ∧ (∀ D ∈ ds, st.objs D = some dobj ∧ s.objs D = none) ∧ ds.Nodup ∧ s.le st ∧ K (tupOf vs) s) → LeavesInM Fence.wide 0 P fn a.tmps R (ds.map mark) .returning W
  | [], st, W, h, hf, ⟨vs, s, h1, h2, h3, h4, h5⟩ => by
    obtain ⟨us, hus, hrep⟩ := results_ok (fr := fr) h hf hrs h1
    simp only [List.map_nil, LeavesInM, LeavesIn]
    refine ⟨if h : us.toArray.size = 1 then us.toArray[0] else .tuple us.toArray, ?_, hR _ _ _ _ (h.weaken h4) ?_ h5⟩
    · rw [results_eq, Sem.run_bind, Array.mapM_eq_mapM_toList]
      have : (List.toArray <$> fn.results.toList.mapM (resOne a.tmps)).run P W = .ok us.toArray W := by
        rw [map_eq_pure_bind, Sem.run_bind, hus]; rfl
      rw [this]
      simp only [Result.andThen_ok]
      split <;> rfl
    · match vs, us, hrep with
      | [], [], _ => simp only [tupOf, Rep]; exact ⟨#[], rfl, by simp [RepL]⟩
      | [v], [u], hr => exact hr.1
      | v :: w :: vs, u :: x :: us, hr => simp only [tupOf, Rep]; exact ⟨(u :: x :: us).toArray, by simp, hr⟩
      | [], _ :: _, hr => exact hr.elim
      | _ :: _, [], hr => exact hr.elim
      | [_], _ :: _ :: _, hr => exact hr.2.elim
      | _ :: _ :: _, [_], hr => exact hr.2.elim
  | D :: ds, st, W, h, hf, ⟨vs, s, h1, h2, h3, h4, h5⟩ => by
    have hD := (h2 D (by simp)).1
    have hnd := List.nodup_cons.1 h3
    simp only [List.map_cons, LeavesInM]
    have hLD := h.raw D _ hD
    refine ⟨by simp, .inl ⟨D, _, rfl, run_takeDeferred hLD, ?_⟩⟩
    have hr2 := h.put_raw (o' := .deferred none) hD
    refine leaves_ok hrs hR ds _ _ hr2 hf ⟨vs, s, retvs_raw hD h1, fun E hE => ?_, hnd.2, ?_, h5⟩
    · have hne : E ≠ D := fun e => hnd.1 (e ▸ hE)
      exact ⟨by simp only [St.ins, if_neg hne]; exact (h2 E (by simp [hE])).1, (h2 E (by simp [hE])).2⟩
    · refine ⟨fun b o hb => ?_, h4.live⟩
      have hne : b ≠ D := fun e => by rw [e, (h2 D (by simp)).2] at hb; cases hb
      simp only [St.ins, if_neg hne]; exact h4.objs b o hb
end
theorem VCalls.of {Z : Im} {f : Nat} {F : VFn} (hF : compF P f = some F) {args : List AV} {st : St} {K : AV → St → Prop} (hn : args.length ≤ F.n) (h : vwp P F.code Z none (retQ F.rs K) (initFr args) st) : VCalls P Z f args st K := by
  unfold compF at hF
  split at hF
  · rename_i fn hfn
    split at hF
    · rename_i c hb
      split at hF
      · rename_i hname
        split at hF
        · rename_i vc rs hc hr
          cases hF
          refine ⟨fun aas w => ?_, fun B I W vs hz hrel hargs => ?_⟩
          · simp only [callFunc, Sem.run_bind, run_program, Result.andThen_ok, hfn]
            simp [hname, hb]
          · have hsz : vs.size = args.length := by have := hargs.length; simpa using this
            refine callsIn_wide.1 (callsIn_of_wp_marks (n := 0) hfn hb trivial ?_ rfl)
            have hf0 : FrRep I fn.ntmps (initFr args) { tmps := vs ++ Array.replicate (fn.ntmps - vs.size) Go.undef, defers := [] } := by
              refine ⟨by simp; simp only at hn; omega, fun i => ?_, rfl⟩
              simp only [initFr, Act.eval]
              cases hi : args[i]? with
              | some x =>
                obtain ⟨u, hu, hrx⟩ := hargs.get hi
                have hlt : i < vs.size := by have := (List.getElem?_eq_some_iff.1 hu).1; simpa using this
                rw [Array.getD_eq_getD_getElem?, Array.getElem?_append_left hlt]
                have : vs[i]? = some u := by simpa using hu
                rw [this]; exact hrx
              | none =>
                have hge : vs.size ≤ i := by have := List.getElem?_eq_none_iff.1 hi; omega
                simp only [Rep]
                rw [Array.getD_eq_getD_getElem?, Array.getElem?_append_right hge]
                cases hx : (Array.replicate (fn.ntmps - vs.size) Go.undef)[i - vs.size]? with
                | none => rfl
                | some y =>
                  have := Array.getElem?_eq_some_iff.1 hx
                  obtain ⟨_, e⟩ := this
                  simp at e; exact e.symm
            refine wpIn_mono (vwp_ok c vc hc Z none _ B I _ st _ W hz h hrel hf0) (fun e a' W' => ?_)
            rintro ⟨J, fr', st', hle, hr', hf', hq⟩
            have fin : (∃ vs s, retvs fr'.t st' rs = some vs ∧ (∀ D ∈ fr'.d, st'.objs D = some dobj ∧ s.objs D = none) ∧ fr'.d.Nodup ∧ s.le st' ∧ K (tupOf vs) s) → LeavesInM Fence.wide 0 P fn a'.tmps (fun e W' => ∃ u J st' v, e = .returned u ∧ I.le J ∧ Rel B J st' W' ∧ Rep J v u ∧ K v st') a'.defers .returning W' := fun hq => by
              rw [hf'.defs]
              exact leaves_ok (B := B) (I := J) (fr := fr') hr (fun u W2 v s h1 h2 h3 => ⟨u, J, s, v, rfl, hle, h1, h2, h3⟩) fr'.d st' W' hr' hf'.rep hq
            cases e <;> simp only [retQ] at hq <;> first | exact hq.elim | exact fin hq
        · cases hF
      · cases hF
    · cases hF
  · cases hF
end Go.Proofs.Ytddbnncimggogaa.V
end
section
set_option linter.unusedSimpArgs false
set_option linter.unusedVariables false
/- The rules by which a walk is reckoned. -/
namespace Go.Proofs.Ytddbnncimggogaa.V
open Go Go.RowKit
variable {P : Program} {Z : Im}
theorem put_t (fr : Fr) (d : Nat) (v : AV) (i : Nat) : (fr.put (some d) v).t i = if i = d then v else fr.t i := rfl
theorem put_none (fr : Fr) (v : AV) : fr.put none v = fr := rfl
theorem put_d (fr : Fr) (d : Option Nat) (v : AV) : (fr.put d v).d = fr.d := by cases d <;> rfl
theorem ins_objs (st : St) (b i : Nat) (o : AObj) : (st.ins b o).objs i = if i = b then some o else st.objs i := rfl
theorem ins_live (st : St) (b : Nat) (o : AObj) : (st.ins b o).live = st.live := rfl
def guardQ (c : AV) (w : Bool) (A B : Prop) : Prop := match c with
  | .bool b => (b = w → A) ∧ (b ≠ w → B)
  | .no => B
  | _ => False
theorem vop_none (dst : Option Nat) (op : VO) (pre : List Nat) (ap : List (Nat × Nat)) (K : Fr → St → Prop) (fr : Fr) (st : St) : vop P Z ⟨dst, op, none, pre, ap⟩ K fr st = vstep P Z op fr st (fun v s => K (fr.put dst v) s) := by
  simp [vop, gd]
theorem vop_guard (dst : Option Nat) (op : VO) (g : Nat) (w : Bool) (pre : List Nat) (ap : List (Nat × Nat)) (K : Fr → St → Prop) (fr : Fr) (st : St) :
    vop P Z ⟨dst, op, some (g, w), pre, ap⟩ K fr st = guardQ (fr.t g) w (vstep P Z op fr st (fun v s => K (fr.put dst v) s)) (K (fr.put dst .no) st) := by
  simp only [vop, gd, guardQ]
  cases hg : fr.t g <;> simp
theorem vopD_none (dst : Option Nat) (op : VO) (pre : List Nat) (ap : List (Nat × Nat)) (K : Fr → St → Prop) (fr : Fr) (st : St) : vopD P Z ⟨dst, op, none, pre, ap⟩ K fr st = (apOk ⟨dst, op, none, pre, ap⟩ fr ∧ vstepD P Z op fr st (fun v s => K (fr.put dst v) s)) := by
  simp [vopD, gd]
theorem vopD_guard (dst : Option Nat) (op : VO) (g : Nat) (w : Bool) (pre : List Nat) (ap : List (Nat × Nat)) (K : Fr → St → Prop) (fr : Fr) (st : St) :
    vopD P Z ⟨dst, op, some (g, w), pre, ap⟩ K fr st = guardQ (fr.t g) w (apOk ⟨dst, op, some (g, w), pre, ap⟩ fr ∧ vstepD P Z op fr st (fun v s => K (fr.put dst v) s)) (K (fr.put dst .no) st) := by
  simp only [vopD, gd, guardQ]
  cases hg : fr.t g <;> simp
theorem g_tt (A B : Prop) : guardQ (.bool true) true A B = A := by simp [guardQ]
theorem g_tf (A B : Prop) : guardQ (.bool true) false A B = B := by simp [guardQ]
theorem g_ft (A B : Prop) : guardQ (.bool false) true A B = B := by simp [guardQ]
theorem g_ff (A B : Prop) : guardQ (.bool false) false A B = A := by simp [guardQ]
theorem c_tt (A B : Prop) : condQ (.bool true) A B = A := by simp [condQ]
theorem c_ff (A B : Prop) : condQ (.bool false) A B = B := by simp [condQ]
theorem init_t (args : List AV) (i : Nat) : (initFr args).t i = (args[i]?).getD .no := by simp only [initFr]; cases args[i]? <;> rfl
theorem init_d (args : List AV) : (initFr args).d = [] := rfl
/-! ### The walk's steps, one by one -/
section
variable (Z : Im) (ro : Option Nat) (Q : Exit → Fr → St → Prop) (fr : Fr) (st : St)
theorem w_skip : vwp P .skip Z ro Q fr st = Q .normal fr st := rfl
theorem w_label (l : Nat) : vwp P (.label l) Z ro Q fr st = Q .normal fr st := rfl
theorem w_goto (l : Nat) : vwp P (.goto l) Z ro Q fr st = Q (.goto l) fr st := rfl
theorem w_exit (id : Nat) : vwp P (.exit id) Z ro Q fr st = Q (.exit id) fr st := rfl
theorem w_ret : vwp P .ret Z ro Q fr st = Q .ret fr st := rfl
theorem w_reg (ops : List VOp) : vwp P (.reg ops) Z ro Q fr st = vops P Z ops (Q .normal) fr st := rfl
theorem w_dreg (ops : List VOp) : vwp P (.dreg ops) Z ro Q fr st = vopsD P Z ops (Q .normal) fr st := rfl
theorem w_seq (a b : VCode) : vwp P (.seq a b) Z ro Q fr st = vwp P a Z ro (thenQ (vwp P b Z ro Q) Q) fr st := rfl
theorem w_block (id : Nat) (b : VCode) : vwp P (.block id b) Z ro Q fr st = vwp P b Z ro (blockQ id Q) fr st := rfl
end
def retK (x : Option (List AV)) (d : List Nat) (K : AV → St → Prop) (st : St) : Prop := ∃ vs s, x = some vs ∧ (∀ D ∈ d, st.objs D = some dobj ∧ s.objs D = none) ∧ d.Nodup ∧ s.le st ∧ K (tupOf vs) s
theorem r_ret (rs : List RV) (K : AV → St → Prop) (fr : Fr) (st : St) : retQ rs K .ret fr st = retK (retvs fr.t st rs) fr.d K st := rfl
theorem r_normal (rs : List RV) (K : AV → St → Prop) (fr : Fr) (st : St) : retQ rs K .normal fr st = retK (retvs fr.t st rs) fr.d K st := rfl
theorem retK_nil (vs : List AV) (K : AV → St → Prop) (st : St) : retK (some vs) [] K st = ∃ s, s.le st ∧ K (tupOf vs) s := by simp [retK]
theorem St.le.refl (s : St) : s.le s := ⟨fun _ _ h => h, fun _ h => h⟩
theorem St.le.trans {a b c : St} (h : a.le b) (k : b.le c) : a.le c := ⟨fun x o e => k.objs x o (h.objs x o e), fun x e => k.live x (h.live x e)⟩
theorem le_ins {s t : St} (h : s.le t) {b : Nat} (o : AObj) (hb : s.objs b = none) : s.le (t.ins b o) :=
  ⟨fun x y e => by have hne : x ≠ b := fun q => by subst q; rw [hb] at e; cases e
                   simp only [St.ins, if_neg hne]; exact h.objs x y e, h.live⟩
theorem le_add {s t : St} (h : s.le t) (k : Tok) : s.le (t.add k) := ⟨fun x y e => by cases k <;> exact h.objs x y e, fun x e => by cases k <;> simp only [St.add] <;> first | exact h.live x e | (split <;> first | rfl | exact h.live x e)⟩
theorem le_refl_t (s : St) : s.le s = True := eq_true (St.le.refl s)
theorem le_ins_t (s t : St) (b : Nat) (o : AObj) (hb : s.objs b = none) (h : s.le t) : s.le (t.ins b o) = True := eq_true (le_ins h o hb)
theorem le_ins2_t (s t : St) (b : Nat) (o : AObj) (h : s.le t) : (s.ins b o).le (t.ins b o) = True := eq_true ⟨fun x y e => by simp only [St.ins] at e ⊢; split at e <;> simp_all [h.objs x y], h.live⟩
theorem ex_le1 (t st : St) (p : St → Prop) : (∃ s, s.le t ∧ s = st ∧ p s) = (st.le t ∧ p st) :=
  propext ⟨fun ⟨_, h, e, k⟩ => e ▸ ⟨h, k⟩, fun ⟨h, k⟩ => ⟨st, h, rfl, k⟩⟩
theorem ex_le2 (t st : St) (p : Prop) : (∃ s, s.le t ∧ p ∧ s = st) = (st.le t ∧ p) :=
  propext ⟨fun ⟨_, h, k, e⟩ => e ▸ ⟨h, k⟩, fun ⟨h, k⟩ => ⟨st, h, k, rfl⟩⟩
theorem ex_le3 (t st : St) : (∃ s, s.le t ∧ s = st) = st.le t :=
  propext ⟨fun ⟨_, h, e⟩ => e ▸ h, fun h => ⟨st, h, rfl⟩⟩
def apart : AV → AV → Prop
  | .ptr b _, .ptr b' _ => ¬ b = b'
  | _, _ => True
theorem ap_n (d : Option Nat) (op : VO) (g : Option (Nat × Bool)) (p : List Nat) (fr : Fr) : apOk ⟨d, op, g, p, []⟩ fr = True := by
  unfold apOk; cases op <;> simp
theorem ap_c (d : Option Nat) (n : Nat) (x v : VE) (g : Option (Nat × Bool)) (p : List Nat) (i a : Nat) (r : List (Nat × Nat)) (fr : Fr) : apOk ⟨d, .store n x v, g, p, (i, a) :: r⟩ fr = (apart (fr.t a) (x.ev fr) ∧ apOk ⟨d, .store n x v, g, p, r⟩ fr) := by
  simp only [apOk, List.map_cons, List.forall_mem_cons, eq_iff_iff]
  refine and_congr_left' ?_
  constructor
  · intro h
    unfold apart
    split
    · rename_i h1 h2; exact h _ _ _ _ h1 h2
    · trivial
  · intro h b off b' off' h1 h2
    rw [h1, h2] at h; exact h
theorem apart_p (b o b' o' : Nat) : apart (.ptr b o) (.ptr b' o') = ¬ b = b' := rfl
theorem apart_i (x : AV) (o : Nat) (y : AV) : apart (.iptr x o) y = True := by unfold apart; rfl
theorem loop_of {b : VCode} {ro : Option Nat} {Q : Exit → Fr → St → Prop} {fr : Fr} {st : St} (Inv : Fr → St → Prop) (μ : Fr → St → Nat) (h0 : Inv fr st)
    (h : ∀ fr st, Inv fr st → vwp P b Z ro (thenQ (fun fr' st' => ∃ s, s.le st' ∧ Inv fr' s ∧ μ fr' s < μ fr st) Q) fr st) : vwp P (.loop b) Z ro Q fr st := ⟨Inv, μ, h0, h⟩
theorem vwp_mono {ro : Option Nat} : ∀ {c : VCode} {Q Q' : Exit → Fr → St → Prop} {fr : Fr} {st : St}, (∀ e fr st, Q e fr st → Q' e fr st) → vwp P c Z ro Q fr st → vwp P c Z ro Q' fr st
  | .skip, _, _, _, _, h, k => h _ _ _ k
  | .label _, _, _, _, _, h, k => h _ _ _ k
  | .goto _, _, _, _, _, h, k => h _ _ _ k
  | .exit _, _, _, _, _, h, k => h _ _ _ k
  | .ret, _, _, _, _, h, k => h _ _ _ k
  | .reg _, _, _, _, _, h, k => vops_mono (h .normal) k
  | .dreg _, _, _, _, _, h, k => vopsD_mono (h .normal) k
  | .seq a b, _, _, _, _, h, k => vwp_mono (c := a) (fun e fr st q => by
      cases e <;> first | exact vwp_mono (c := b) h q | exact h _ _ _ q) k
  | .cond c a b, _, _, fr, _, h, k => by
      simp only [vwp, condQ] at k ⊢
      split at k
      · exact ⟨fun e => vwp_mono (c := a) h (k.1 e), fun e => vwp_mono (c := b) h (k.2 e)⟩
      · exact k
  | .block id b, _, _, _, _, h, k => vwp_mono (c := b) (fun e fr st q => by
      cases e <;> simp only [blockQ] at q ⊢ <;> first | (split at q <;> first | (rename_i e; rw [if_pos e]; exact h _ _ _ q) | (rename_i e; rw [if_neg e]; exact h _ _ _ q)) | exact h _ _ _ q) k
  | .loop b, _, _, _, _, h, ⟨Inv, μ, h0, hs⟩ => ⟨Inv, μ, h0, fun fr st hi => vwp_mono (c := b) (fun e fr st q => by
      cases e <;> first | exact q | exact h _ _ _ q) (hs fr st hi)⟩
  | .scope c l rest, _, _, _, _, h, ⟨hro, J, μ, h0, hs⟩ => ⟨hro, J, μ, vwp_mono (c := c) (fun e fr st q => by
      cases e <;> first | exact q | exact h _ _ _ q) h0, fun fr st hi => vwp_mono (c := rest) (fun e fr st q => by
      cases e <;> first | exact q | exact h _ _ _ q) (hs fr st hi)⟩
  | .rng g ps asg body, _, _, _, _, h, k => by
      have hj : ∀ {Q Q' : Exit → Fr → St → Prop}, (∀ e fr st, Q e fr st → Q' e fr st) → ∀ p fr st, jumpQ Q p fr st → jumpQ Q' p fr st := fun h p fr st q => by
        unfold jumpQ at q ⊢
        split at q <;> first | exact h _ _ _ q | exact q
      simp only [vwp] at k ⊢
      split at k
      · cases ro with
        | none => exact fun Y l D r h1 h2 h3 h4 h5 => (k Y l D r h1 h2 h3 h4 h5).mono fun v s ⟨a, p, q1, q2, q3⟩ => ⟨a, p, q1, q2, hj h _ _ _ q3⟩
        | some l0 => exact ⟨k.1, fun Y l r h1 h2 h5 => (k.2 Y l r h1 h2 h5).mono fun v s ⟨a, p, q1, q2, q3⟩ => ⟨a, p, q1, q2, hj h _ _ _ q3⟩⟩
      · exact k
/-- Numbers that stay as they are. -/
theorem wrap_i64 (n : Int) (h1 : -9223372036854775808 ≤ n) (h2 : n ≤ 9223372036854775807) : IntKind.i64.wrap n = n := by
  unfold IntKind.wrap IntKind.bits IntKind.signed
  simp only
  split <;> simp_all <;> omega
theorem loopk_of {b : VCode} {ro : Option Nat} {Q : Exit → Fr → St → Prop} {fr : Fr} {st : St} {len : Nat} (hn : len ≤ 1000000000000) (Inv : Nat → Fr → St → Prop) (h0 : Inv 0 fr st)
    (hs : ∀ k fr st, k < len → IntKind.i64.wrap ((k : Int) + 1) = (k : Int) + 1 → Inv k fr st → vwp P b Z ro (thenQ (fun fr' st' => ∃ s, s.le st' ∧ Inv (k + 1) fr' s) Q) fr st)
    (he : ∀ fr st, Inv len fr st → vwp P b Z ro (thenQ (fun _ _ => False) Q) fr st) : vwp P (.loop b) Z ro Q fr st := by
  classical
  have hp : ∀ fr st, (∃ k, k ≤ len ∧ Inv k fr st) → ∃ m, (∃ k, k + m = len ∧ Inv k fr st) ∧ ∀ j, (∃ k, k + j = len ∧ Inv k fr st) → m ≤ j := fun fr st ⟨k, hk, h⟩ =>
    least_of (fun m => ∃ k, k + m = len ∧ Inv k fr st) ⟨len - k, k, by omega, h⟩
  refine loop_of (fun fr st => ∃ k, k ≤ len ∧ Inv k fr st) (fun fr st => if h : ∃ k, k ≤ len ∧ Inv k fr st then Classical.choose (hp fr st h) else 0) ⟨0, Nat.zero_le _, h0⟩ ?_
  intro fr st hI
  obtain ⟨⟨k, hk, hi⟩, hmin⟩ := Classical.choose_spec (hp fr st hI)
  have hμ : (if h : ∃ k, k ≤ len ∧ Inv k fr st then Classical.choose (hp fr st h) else 0) = Classical.choose (hp fr st hI) := dif_pos hI
  rw [hμ]
  by_cases hlt : k < len
  · refine vwp_mono ?_ (hs k fr st hlt (wrap_i64 _ (by omega) (by omega)) hi)
    intro e fr' st' h'
    cases e <;> simp only [thenQ] at h' ⊢ <;> try exact h'
    obtain ⟨s, hle, hi'⟩ := h'
    have hI' : ∃ k, k ≤ len ∧ Inv k fr' s := ⟨k + 1, hlt, hi'⟩
    refine ⟨s, hle, hI', ?_⟩
    rw [dif_pos hI']
    have := (Classical.choose_spec (hp fr' s hI')).2 (len - (k + 1)) ⟨k + 1, by omega, hi'⟩
    omega
  · have : k = len := by omega
    subst this
    refine vwp_mono ?_ (he fr st hi)
    intro e fr' st' h'
    cases e <;> simp only [thenQ] at h' ⊢ <;> first | exact h'.elim | exact h'
/-! ### What single operations yield -/
section
variable (k : IntKind) (a b : Int)
theorem e_add : vbin .add (.int k a) (.int k b) = some (.int k (k.wrap (a + b))) := by simp [vbin]
theorem e_sub : vbin .sub (.int k a) (.int k b) = some (.int k (k.wrap (a - b))) := by simp [vbin]
theorem e_mul : vbin .mul (.int k a) (.int k b) = some (.int k (k.wrap (a * b))) := by simp [vbin]
theorem e_quo (h : b ≠ 0) : vbin .quo (.int k a) (.int k b) = some (.int k (k.wrap (a.tdiv b))) := by simp [vbin, h]
theorem e_rem (h : b ≠ 0) : vbin .rem (.int k a) (.int k b) = some (.int k (a.tmod b)) := by simp [vbin, h]
theorem e_eql : vbin .eql (.int k a) (.int k b) = some (.bool (a == b)) := by simp [vbin]
theorem e_neq : vbin .neq (.int k a) (.int k b) = some (.bool (a != b)) := by simp [vbin]
theorem e_lss : vbin .lss (.int k a) (.int k b) = some (.bool (decide (a < b))) := by simp [vbin]
theorem e_leq : vbin .leq (.int k a) (.int k b) = some (.bool (decide (a ≤ b))) := by simp [vbin]
theorem e_gtr : vbin .gtr (.int k a) (.int k b) = some (.bool (decide (b < a))) := by simp [vbin]
theorem e_geq : vbin .geq (.int k a) (.int k b) = some (.bool (decide (b ≤ a))) := by simp [vbin]
theorem e_neg : vun .neg (.int k a) = some (.int k (k.wrap (0 - a))) := rfl
theorem e_conv (q : IntKind) : vconv q (.int k a) = some (.int q (q.wrap a)) := rfl
theorem e_min : vmin2 (.int k a) (.int k b) = some (.int k (min a b)) := rfl
theorem e_max : vmax2 (.int k a) (.int k b) = some (.int k (max a b)) := rfl
end
theorem e_not (t : Bool) : vun .not (.bool t) = some (.bool (!t)) := rfl
theorem e_pick (t : Bool) (a b : AV) : vpick (.bool t) a b = some (if t then a else b) := rfl
theorem e_pickb (t x y : Bool) : vpick (.bool t) (.bool x) (.bool y) = some (.bool (if t then x else y)) := by cases t <;> rfl
theorem e_ext (vs : List AV) (i : Nat) : vext (.tup vs) i = vs[i]? := rfl
theorem e_len (xs : List AV) (t : Tok) : vlen (.sl xs t) = some (.int .i64 xs.length) := rfl
theorem e_lens (s : ByteArray) : vlens (.str s) = some (.int .i64 s.size) := rfl
theorem e_fad (b o off : Nat) : vfad off (.ptr b o) = some (.ptr b (o + off)) := rfl
theorem e_fadi (x : AV) (o off : Nat) : vfad off (.iptr x o) = some (.iptr x (o + off)) := rfl
theorem e_fld (cs : List AV) (off n : Nat) (ag : Bool) : vfld off n ag (.agg cs) = grab cs off n ag := rfl
theorem e_ld (st : St) (b off n : Nat) (ag : Bool) (cs : List AV) : vload (st.ins b (.cells cs)) (.ptr b off) n ag = grab cs off n ag := by simp [vload, St.ins]
theorem e_ldo (st : St) (b b' off n : Nat) (ag : Bool) (o : AObj) (h : ¬ b = b') : vload (st.ins b' o) (.ptr b off) n ag = vload st (.ptr b off) n ag := by simp [vload, St.ins, h]
theorem e_ldo2 (st : St) (b b' off n : Nat) (ag : Bool) (o : AObj) (h : ¬ b' = b) : vload (st.ins b' o) (.ptr b off) n ag = vload st (.ptr b off) n ag := e_ldo st b b' off n ag o (fun e => h e.symm)
theorem ins_ins (st : St) (b : Nat) (x y : AObj) : (st.ins b x).ins b y = st.ins b y := by
  simp only [St.ins]; congr 1; funext i; split <;> rfl
theorem ite_some_none (b b0 : Nat) (o : AObj) (x : Option AObj) : ((if b = b0 then some o else x) = none) = (¬ b = b0 ∧ ¬ b0 = b ∧ x = none) := by
  by_cases h : b = b0
  · simp [h]
  · simp [h, Ne.symm h]
theorem VPure.use {f : Nat} {args : List AV} {v : AV} (h : VPure P f args v) {st : St} {K : AV → St → Prop} (k : K v st) : VCalls P Z f args st K :=
  (h Z st).mono fun r s e => by rw [e.1, e.2]; exact k
theorem VCalls.use {f : Nat} {args : List AV} {st : St} {K K' : AV → St → Prop} (h : VCalls P Z f args st K) (k : ∀ v s, K v s → K' v s) : VCalls P Z f args st K' := h.mono k
theorem VPure.of {f : Nat} {F : VFn} (hF : compF P f = some F) {args : List AV} {v : AV} (hn : args.length ≤ F.n) (h : ∀ Z st, vwp P F.code Z none (retQ F.rs (fun r s => r = v ∧ s = st)) (initFr args) st) : VPure P f args v :=
  fun Z st => VCalls.of hF hn (h Z st)
theorem e_ldi (st : St) (cs : List AV) (off n : Nat) (ag : Bool) : vload st (.iptr (.agg cs) off) n ag = grab cs off n ag := rfl
theorem e_ldn (st : St) (k : IntKind) (m : Int) (off n : Nat) (ag : Bool) : vload st (.iptr (.int k m) off) n ag = grab [.int k m] off n ag := rfl
theorem e_ldb (st : St) (m : Bool) (off n : Nat) (ag : Bool) : vload st (.iptr (.bool m) off) n ag = grab [.bool m] off n ag := rfl
theorem e_lds (st : St) (m : ByteArray) (off n : Nat) (ag : Bool) : vload st (.iptr (.str m) off) n ag = grab [.str m] off n ag := rfl
theorem e_ldl (st : St) (m : List AV) (t : Tok) (off n : Nat) (ag : Bool) : vload st (.iptr (.sl m t) off) n ag = grab [.sl m t] off n ag := rfl
theorem e_iad {α : Type} (f : α → AV) (xs : List α) (t : Tok) (q : IntKind) (i : Nat) {x : α} (h : xs[i]? = some x) {sz : Nat} (hl : (f x).cells.length = sz) (hp : 0 < sz) : viad sz (.sl (xs.map f) t) (.int q (i : Int)) = some (.iptr (f x) 0) := by
  simp [viad, h, hl, hp]
theorem e_iadk {α : Type} (f : α → AV) (xs : List α) (t : Tok) (q : IntKind) (i : Nat) (sz : Nat) (h : i < xs.length) (hl : (f xs[i]).cells.length = sz) (hp : 0 < sz) : viad sz (.sl (xs.map f) t) (.int q (i : Int)) = some (.iptr (f xs[i]) 0) :=
  e_iad f xs t q i (List.getElem?_eq_getElem h) hl hp
theorem e_iadk0 {α : Type} (f : α → AV) (xs : List α) (t : Tok) (q : IntKind) (sz : Nat) (h : 0 < xs.length) (hl : (f xs[0]).cells.length = sz) (hp : 0 < sz) : viad sz (.sl (xs.map f) t) (.int q 0) = some (.iptr (f xs[0]) 0) :=
  e_iad f xs t q 0 (List.getElem?_eq_getElem h) hl hp
theorem e_iad0 {x : AV} (xs : List AV) (t : Tok) (q : IntKind) {sz : Nat} (hl : x.cells.length = sz) (hp : 0 < sz) : viad sz (.sl (x :: xs) t) (.int q 0) = some (.iptr x 0) := by
  simp [viad, hl, hp]
theorem e_nchk (b o : Nat) : vnchk (.ptr b o) = some (.ptr b o) := rfl
end Go.Proofs.Ytddbnncimggogaa.V
end
